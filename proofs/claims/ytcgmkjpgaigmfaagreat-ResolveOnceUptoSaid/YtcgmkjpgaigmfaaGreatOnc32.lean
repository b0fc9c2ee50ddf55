import Derived.Test.YtcgmkjpgaigmfaaGreatOnc31
import Derived.Test.YtcgmkjpgaigmfaaGreatOnc12
import Derived.Test.YtcgmkjpgaigmfaaGreatOnc08
set_option linter.all false
/-! Layer 4: mayBlock, where mayStmt answers of its statements. -/
namespace Go.Proofs.YtcgmkjpgaigmfaaGreat
open Go.RowKit
def MayStIs (m : Int) (B : Nat) (s : St) : Prop := ∀ (cs : List Value) (w : World) (deep : Nat), deep ≤ 8 → B ≤ w.heap.size → 0 < B → w.cell? ⟨0, 0, none⟩ = some (.int .i64 m) → rSt w B cs s →
  Calls Tryz.prog 115 #[.agg cs.toArray, .int .i64 (deep : Int)] w fun r w' => r = .returned (.bool (mayS s deep)) ∧ Below w.heap.size w w'
theorem enters_mayb1 : ∀ args w, (callFunc 114 args).run Tryz.prog w = .ok (.enter 114 args) w := enters_of Tryz.func114 (by kernel_rfl) rfl
theorem len14 {cs : List Value} (h : cs.length = 14) : ∃ a0 a1 a2 a3 a4 a5 a6 a7 a8 a9 a10 a11 a12 a13, cs = [a0, a1, a2, a3, a4, a5, a6, a7, a8, a9, a10, a11, a12, a13] := by
  match cs, h with
  | [a0, a1, a2, a3, a4, a5, a6, a7, a8, a9, a10, a11, a12, a13], _ => exact ⟨a0, a1, a2, a3, a4, a5, a6, a7, a8, a9, a10, a11, a12, a13, rfl⟩
set_option maxRecDepth 100000 in
set_option maxHeartbeats 400000 in
theorem mayb1_any {m : Int} {B : Nat} {s : St} (ih : MayStIs m B s) (cs : List Value) (w : World) (deep bd : Nat) (hd : deep ≤ 8) (hB : B ≤ w.heap.size) (h0 : 0 < B) (hz : w.cell? ⟨0, 0, none⟩ = some (.int .i64 m)) (hr : rSt w B cs s) (hel : cs.length = 14)
    (hl : w.cell? ⟨bd, 0, none⟩ = some (.int .i64 (deep : Int))) :
    Calls Tryz.prog 114 #[.agg cs.toArray, .pointer (some ⟨bd, 0, none⟩)] w fun r w' => r = .returned (.bool (mayS s deep)) ∧ Below w.heap.size w w' := by
  obtain ⟨a0, a1, a2, a3, a4, a5, a6, a7, a8, a9, a10, a11, a12, a13, rfl⟩ := len14 hel
  have hX0 := fun (W : World) (hb : Below w.heap.size w W) => ih _ W deep hd (by have := hb.size; omega) h0 ((hb.cell (p := ⟨0, 0, none⟩) (by show 0 < _; omega)).trans hz) (sta_st.keep hr fun q hq => (hb.mono hB).cell hq)
  obtain ⟨wa, hwa, hsa, hba, hca, -⟩ := box1 w #[a0, a1, a2, a3, a4, a5, a6, a7, a8, a9, a10, a11, a12, a13] 75
  have hbl : bd < w.heap.size := World.block_lt_of_cell? w _ hl
  have hX : Hid (Calls Tryz.prog 115 #[.agg #[a0, a1, a2, a3, a4, a5, a6, a7, a8, a9, a10, a11, a12, a13], .int .i64 (deep : Int)] wa fun r w' => r = .returned (.bool (mayS s deep)) ∧ Below wa.heap.size wa w') := hide (hX0 wa hba)
  have l0 : wa.cell? ⟨bd, 0, none⟩ = some (.int .i64 (deep : Int)) := (hba.cell (p := ⟨bd, 0, none⟩) hbl).trans hl
  have y0 : wa.cell? ⟨w.heap.size, 0, none⟩ = some (a0) := hca 0
  have y1 : wa.cell? ⟨w.heap.size, 1, none⟩ = some (a1) := hca 1
  have y2 : wa.cell? ⟨w.heap.size, 2, none⟩ = some (a2) := hca 2
  have y3 : wa.cell? ⟨w.heap.size, 3, none⟩ = some (a3) := hca 3
  have y4 : wa.cell? ⟨w.heap.size, 4, none⟩ = some (a4) := hca 4
  have y5 : wa.cell? ⟨w.heap.size, 5, none⟩ = some (a5) := hca 5
  have y6 : wa.cell? ⟨w.heap.size, 6, none⟩ = some (a6) := hca 6
  have y7 : wa.cell? ⟨w.heap.size, 7, none⟩ = some (a7) := hca 7
  have y8 : wa.cell? ⟨w.heap.size, 8, none⟩ = some (a8) := hca 8
  have y9 : wa.cell? ⟨w.heap.size, 9, none⟩ = some (a9) := hca 9
  have y10 : wa.cell? ⟨w.heap.size, 10, none⟩ = some (a10) := hca 10
  have y11 : wa.cell? ⟨w.heap.size, 11, none⟩ = some (a11) := hca 11
  have y12 : wa.cell? ⟨w.heap.size, 12, none⟩ = some (a12) := hca 12
  have y13 : wa.cell? ⟨w.heap.size, 13, none⟩ = some (a13) := hca 13
  show Calls _ _ #[.agg #[a0, a1, a2, a3, a4, a5, a6, a7, a8, a9, a10, a11, a12, a13], .pointer (some ⟨bd, 0, none⟩)] _ _
  replace hba := hide hba
  have hle : w.heap.size ≤ wa.heap.size := by omega
  generalize mayS s deep = z at hX ⊢
  clear hca hX0 ih hr hel
  go_enter Tryz.func114, Tryz.ntmps114
  go_wp2_with (go_at_call 115; refine hX.out.mono ?_; rintro e w1 ⟨rfl, hb1⟩)
  go_ret
  exact ⟨rfl, hba.out.trans (hb1.mono hle)⟩
end Go.Proofs.YtcgmkjpgaigmfaaGreat
/-! Layer 4: mayBlock, where mayStmt answers of its statements. -/
namespace Go.Proofs.YtcgmkjpgaigmfaaGreat
open Go.RowKit
set_option maxRecDepth 100000 in
set_option maxHeartbeats 400000 in
theorem mayb_of {m : Int} {B : Nat} (l : List St) (ih : ∀ x ∈ l, MayStIs m B x) (A : Option Addr) (cap : Nat) (w : World) (deep : Nat) (hd : deep ≤ 9) (hB : B ≤ w.heap.size) (h0 : 0 < B) (hz : w.cell? ⟨0, 0, none⟩ = some (.int .i64 m)) (hS : Sl 14 rSt w B A l) :
    Calls Tryz.prog 45 #[.slice A l.length cap, .int .i64 (deep : Int)] w fun r w' => r = .returned (.bool (mayBlk l deep)) ∧ Below w.heap.size w w' := by
  have hl := hS.len
  obtain ⟨wa, hwa, hsa, hba, hca, -⟩ := box1 w #[.int .i64 (deep : Int)] 3
  have n0 : wa.cell? ⟨w.heap.size, 0, none⟩ = some (.int .i64 (deep : Int)) := hca 0
  have hza : wa.cell? ⟨0, 0, none⟩ = some (.int .i64 m) := (hba.cell (p := ⟨0, 0, none⟩) (by show 0 < _; omega)).trans hz
  have hAll : deep ≤ 8 → Calls Tryz.prog 113 #[.slice A l.length cap, .func (.func 114) #[] #[.pointer (some ⟨w.heap.size, 0, none⟩)]] wa fun e w' => e = .returned (.bool (mayL l deep)) ∧ Below wa.heap.size wa w' := fun hd8 => by
    rw [mayL_all]
    exact all_Stmt sta_st 114 #[.pointer (some ⟨w.heap.size, 0, none⟩)] enters_mayb1 (fun s => mayS s deep) A cap l wa (by omega) (hS.below sta_st (hba.mono hB))
      (fun i x cs W hx hb hr hel => mayb1_any (ih x (List.mem_of_getElem? hx)) cs W deep w.heap.size hd8 (by have := hb.size; omega) h0 ((hb.cell (p := ⟨0, 0, none⟩) (by show 0 < _; omega)).trans hza) hr hel ((hb.cell (p := ⟨w.heap.size, 0, none⟩) (by show w.heap.size < _; omega)).trans n0))
  have hm : mayBlk l deep = (decide (l.length = 0) || (decide (deep ≤ 8) && decide (l.length ≤ 32) && mayL l deep)) := by
    unfold mayBlk
    cases l <;> simp
  rw [hm]
  generalize mayL l deep = z at hAll ⊢
  replace hba := hide hba
  have hle : w.heap.size ≤ wa.heap.size := by omega
  clear hca ih hz hza hS hm
  by_cases hn : l.length = 0
  · rw [decide_eq_true hn]
    have hnz : (l.length : Int) = 0 := by omega
    clear hAll
    go_enter Tryz.func45, Tryz.ntmps45
    go_wp2
    go_ret
    exact ⟨rfl, hba.out⟩
  · rw [decide_eq_false hn]
    have hnz : ¬ (l.length : Int) = 0 := by omega
    by_cases hd8 : deep ≤ 8
    · rw [decide_eq_true hd8]
      have hdz : (deep : Int) ≤ 8 := by omega
      have hX := hide (hAll hd8)
      by_cases h32 : l.length ≤ 32
      · rw [decide_eq_true h32]
        have h3z : (l.length : Int) ≤ 32 := by omega
        clear hAll
        have eg := enters_mayb1
        go_enter Tryz.func45, Tryz.ntmps45
        go_wp2_with (go_at_call 113; refine hX.out.mono ?_; rintro e w1 ⟨rfl, hb1⟩)
        go_ret
        exact ⟨by simp, hba.out.trans (hb1.mono hle)⟩
      · rw [decide_eq_false h32]
        have h3z : ¬ (l.length : Int) ≤ 32 := by omega
        clear hAll hX
        go_enter Tryz.func45, Tryz.ntmps45
        go_wp2
        go_ret
        exact ⟨by simp, hba.out⟩
    · rw [decide_eq_false hd8]
      have hdz : ¬ (deep : Int) ≤ 8 := by omega
      clear hAll
      go_enter Tryz.func45, Tryz.ntmps45
      go_wp2
      go_ret
      exact ⟨by simp, hba.out⟩
end Go.Proofs.YtcgmkjpgaigmfaaGreat
/-! Layer 4: mayStmt. BEGUN: the leaf of a body where the kind bears none. -/
namespace Go.Proofs.YtcgmkjpgaigmfaaGreat
open Go.RowKit
theorem mayS_bodies {kind : Int} {head name : ByteArray} {e : Ex} {thn els : List St} {deep : Nat} (h2 : kind ≠ 2) (hb : thn.length + els.length ≠ 0) : mayS (.mk kind head name e thn els) deep = false := by
  have hn : (thn.isEmpty && els.isEmpty) = false := by
    cases thn <;> cases els <;> simp_all
  simp only [mayS, hn, if_neg h2, Bool.false_and]
  simp
set_option maxRecDepth 200000 in
set_option maxHeartbeats 400000 in
theorem mays_bodies {m : Int} {B : Nat} (kind : Int) (head name : ByteArray) (e : Ex) (thn els : List St) (cs : List Value) (w : World) (deep : Nat) (hr : rSt w B cs (.mk kind head name e thn els)) (hel : cs.length = 14) (h2 : kind ≠ 2) (hb : thn.length + els.length ≠ 0)
    (hsm : thn.length + els.length ≤ 9223372036854775807) :
    Calls Tryz.prog 115 #[.agg cs.toArray, .int .i64 (deep : Int)] w fun r w' => r = .returned (.bool (mayS (.mk kind head name e thn els) deep)) ∧ Below w.heap.size w w' := by
  rw [mayS_bodies h2 hb]
  obtain ⟨es, A1, c1, A2, c2, rfl, h0, h1, h2', he, hT, hE⟩ := RS.inv hr
  have l1 := hT.len
  have l2 := hE.len
  obtain ⟨op, lit, eh, en, hi, lo, args⟩ := e
  obtain ⟨A, cap, rfl, -, -, -, -, -, -, hs⟩ := RE.inv he
  have hla := hs.len
  clear hr he hT hE hs hel
  obtain ⟨wa, hwa, hsa, hba, hca, -⟩ := box1 w #[.int .u8 kind, .string head, .string name, .int .u8 op, .int .i64 lit.1, .int .u64 lit.2.1, .int .u64 lit.2.2, .string eh, .string en, .int .i64 hi, .int .i64 lo, .slice A args.length cap, .slice A1 thn.length c1, .slice A2 els.length c2] 75
  have y0 : wa.cell? ⟨w.heap.size, 0, none⟩ = some (.int .u8 kind) := hca 0
  have y1 : wa.cell? ⟨w.heap.size, 1, none⟩ = some (.string head) := hca 1
  have y2 : wa.cell? ⟨w.heap.size, 2, none⟩ = some (.string name) := hca 2
  have y3 : wa.cell? ⟨w.heap.size, 3, none⟩ = some (.int .u8 op) := hca 3
  have y4 : wa.cell? ⟨w.heap.size, 4, none⟩ = some (.int .i64 lit.1) := hca 4
  have y5 : wa.cell? ⟨w.heap.size, 5, none⟩ = some (.int .u64 lit.2.1) := hca 5
  have y6 : wa.cell? ⟨w.heap.size, 6, none⟩ = some (.int .u64 lit.2.2) := hca 6
  have y7 : wa.cell? ⟨w.heap.size, 7, none⟩ = some (.string eh) := hca 7
  have y8 : wa.cell? ⟨w.heap.size, 8, none⟩ = some (.string en) := hca 8
  have y9 : wa.cell? ⟨w.heap.size, 9, none⟩ = some (.int .i64 hi) := hca 9
  have y10 : wa.cell? ⟨w.heap.size, 10, none⟩ = some (.int .i64 lo) := hca 10
  have y11 : wa.cell? ⟨w.heap.size, 11, none⟩ = some (.slice A args.length cap) := hca 11
  have y12 : wa.cell? ⟨w.heap.size, 12, none⟩ = some (.slice A1 thn.length c1) := hca 12
  have y13 : wa.cell? ⟨w.heap.size, 13, none⟩ = some (.slice A2 els.length c2) := hca 13
  clear hca
  replace hba := hide hba
  have hbz : ((thn.length : Int) + (els.length : Int) > 0) := by omega
  have hbw : (thn.length : Int) + (els.length : Int) ≤ 9223372036854775807 := by omega
  have h2b : (kind != 2) = true := by simpa using h2
  show Calls _ _ #[.agg #[.int .u8 kind, .string head, .string name, .int .u8 op, .int .i64 lit.1, .int .u64 lit.2.1, .int .u64 lit.2.2, .string eh, .string en, .int .i64 hi, .int .i64 lo, .slice A args.length cap, .slice A1 thn.length c1, .slice A2 els.length c2], .int .i64 (deep : Int)] _ _
  go_enter Tryz.func115, Tryz.ntmps115
  go_wp2
  go_ret
  exact ⟨rfl, hba.out⟩
theorem mayS_other {kind : Int} {head name : ByteArray} {e : Ex} {thn els : List St} {deep : Nat} (h1 : kind ≠ 1) (h2 : kind ≠ 2) (h3 : kind ≠ 3) (h4 : kind ≠ 4) (h5 : kind ≠ 5) (h6 : kind ≠ 6) (h7 : kind ≠ 7) : mayS (.mk kind head name e thn els) deep = false := by
  simp [mayS, h1, h2, h3, h4, h5, h6, h7]
set_option maxRecDepth 200000 in
set_option maxHeartbeats 400000 in
theorem mays_other {m : Int} {B : Nat} (kind : Int) (head name : ByteArray) (e : Ex) (thn els : List St) (cs : List Value) (w : World) (deep : Nat) (hr : rSt w B cs (.mk kind head name e thn els)) (hel : cs.length = 14) (h1k : kind ≠ 1) (h2 : kind ≠ 2) (h3k : kind ≠ 3) (h4k : kind ≠ 4) (h5k : kind ≠ 5) (h6k : kind ≠ 6) (h7k : kind ≠ 7) (hb : thn.length + els.length = 0)
    (hsm : thn.length + els.length ≤ 9223372036854775807) :
    Calls Tryz.prog 115 #[.agg cs.toArray, .int .i64 (deep : Int)] w fun r w' => r = .returned (.bool (mayS (.mk kind head name e thn els) deep)) ∧ Below w.heap.size w w' := by
  rw [mayS_other h1k h2 h3k h4k h5k h6k h7k]
  obtain ⟨es, A1, c1, A2, c2, rfl, h0, h1, h2', he, hT, hE⟩ := RS.inv hr
  have l1 := hT.len
  have l2 := hE.len
  obtain ⟨op, lit, eh, en, hi, lo, args⟩ := e
  obtain ⟨A, cap, rfl, -, -, -, -, -, -, hs⟩ := RE.inv he
  have hla := hs.len
  clear hr he hT hE hs hel
  obtain ⟨wa, hwa, hsa, hba, hca, -⟩ := box1 w #[.int .u8 kind, .string head, .string name, .int .u8 op, .int .i64 lit.1, .int .u64 lit.2.1, .int .u64 lit.2.2, .string eh, .string en, .int .i64 hi, .int .i64 lo, .slice A args.length cap, .slice A1 thn.length c1, .slice A2 els.length c2] 75
  have y0 : wa.cell? ⟨w.heap.size, 0, none⟩ = some (.int .u8 kind) := hca 0
  have y1 : wa.cell? ⟨w.heap.size, 1, none⟩ = some (.string head) := hca 1
  have y2 : wa.cell? ⟨w.heap.size, 2, none⟩ = some (.string name) := hca 2
  have y3 : wa.cell? ⟨w.heap.size, 3, none⟩ = some (.int .u8 op) := hca 3
  have y4 : wa.cell? ⟨w.heap.size, 4, none⟩ = some (.int .i64 lit.1) := hca 4
  have y5 : wa.cell? ⟨w.heap.size, 5, none⟩ = some (.int .u64 lit.2.1) := hca 5
  have y6 : wa.cell? ⟨w.heap.size, 6, none⟩ = some (.int .u64 lit.2.2) := hca 6
  have y7 : wa.cell? ⟨w.heap.size, 7, none⟩ = some (.string eh) := hca 7
  have y8 : wa.cell? ⟨w.heap.size, 8, none⟩ = some (.string en) := hca 8
  have y9 : wa.cell? ⟨w.heap.size, 9, none⟩ = some (.int .i64 hi) := hca 9
  have y10 : wa.cell? ⟨w.heap.size, 10, none⟩ = some (.int .i64 lo) := hca 10
  have y11 : wa.cell? ⟨w.heap.size, 11, none⟩ = some (.slice A args.length cap) := hca 11
  have y12 : wa.cell? ⟨w.heap.size, 12, none⟩ = some (.slice A1 thn.length c1) := hca 12
  have y13 : wa.cell? ⟨w.heap.size, 13, none⟩ = some (.slice A2 els.length c2) := hca 13
  clear hca
  replace hba := hide hba
  have hbz : ¬ ((thn.length : Int) + (els.length : Int) > 0) := by omega
  have hbw : (thn.length : Int) + (els.length : Int) ≤ 9223372036854775807 := by omega
  have h2b : (kind != 2) = true := by simpa using h2
  show Calls _ _ #[.agg #[.int .u8 kind, .string head, .string name, .int .u8 op, .int .i64 lit.1, .int .u64 lit.2.1, .int .u64 lit.2.2, .string eh, .string en, .int .i64 hi, .int .i64 lo, .slice A args.length cap, .slice A1 thn.length c1, .slice A2 els.length c2], .int .i64 (deep : Int)] _ _
  go_enter Tryz.func115, Tryz.ntmps115
  go_wp2
  go_ret
  exact ⟨rfl, hba.out⟩
end Go.Proofs.YtcgmkjpgaigmfaaGreat
/-! Layer 4: mayStmt at an apply, a drop, a validity. -/
namespace Go.Proofs.YtcgmkjpgaigmfaaGreat
open Go.RowKit
theorem emp2 {thn els : List St} (hb : thn.length + els.length = 0) : thn.isEmpty = true ∧ els.isEmpty = true := by
  cases thn <;> cases els <;> simp_all
set_option maxRecDepth 200000 in
set_option maxHeartbeats 400000 in
theorem mays_apply {m : Int} {B : Nat} (kind : Int) (hk : kind = 3) (head name : ByteArray) (e : Ex) (thn els : List St) (cs : List Value) (w : World) (deep : Nat) (hr : rSt w B cs (.mk kind head name e thn els)) (hel : cs.length = 14)
    (hB : B ≤ w.heap.size) (h00 : 0 < B) (hz : w.cell? ⟨0, 0, none⟩ = some (.int .i64 m)) (hb : thn.length + els.length = 0) :
    Calls Tryz.prog 115 #[.agg cs.toArray, .int .i64 (deep : Int)] w fun r w' => r = .returned (.bool (mayS (.mk kind head name e thn els) deep)) ∧ Below w.heap.size w w' := by
  have hv : mayS (.mk kind head name e thn els) deep = (decide (head = strE) && (nameB name && noEx e)) := by
    simp [mayS, emp2 hb, hk, Bool.and_assoc]
  rw [hv]
  clear hv
  obtain ⟨es, A1, c1, A2, c2, rfl, h0, h1, h2', he, hT, hE⟩ := RS.inv hr
  have hsm := RS.small hr
  have l1 := hT.len
  have l2 := hE.len
  have hX0 := fun (W : World) (hb : Below w.heap.size w W) => isNone_any e es W (sta_ex.keep he fun q hq => (hb.mono hB).cell hq)
  obtain ⟨op, lit, eh, en, hi, lo, args⟩ := e
  obtain ⟨A, cap, rfl, -, -, -, -, -, -, hs⟩ := RE.inv he
  have hla := hs.len
  obtain ⟨wa, hwa, hsa, hba, hca, -⟩ := box1 w #[.int .u8 kind, .string head, .string name, .int .u8 op, .int .i64 lit.1, .int .u64 lit.2.1, .int .u64 lit.2.2, .string eh, .string en, .int .i64 hi, .int .i64 lo, .slice A args.length cap, .slice A1 thn.length c1, .slice A2 els.length c2] 75
  have y0 : wa.cell? ⟨w.heap.size, 0, none⟩ = some (.int .u8 kind) := hca 0
  have y1 : wa.cell? ⟨w.heap.size, 1, none⟩ = some (.string head) := hca 1
  have y2 : wa.cell? ⟨w.heap.size, 2, none⟩ = some (.string name) := hca 2
  have y3 : wa.cell? ⟨w.heap.size, 3, none⟩ = some (.int .u8 op) := hca 3
  have y4 : wa.cell? ⟨w.heap.size, 4, none⟩ = some (.int .i64 lit.1) := hca 4
  have y5 : wa.cell? ⟨w.heap.size, 5, none⟩ = some (.int .u64 lit.2.1) := hca 5
  have y6 : wa.cell? ⟨w.heap.size, 6, none⟩ = some (.int .u64 lit.2.2) := hca 6
  have y7 : wa.cell? ⟨w.heap.size, 7, none⟩ = some (.string eh) := hca 7
  have y8 : wa.cell? ⟨w.heap.size, 8, none⟩ = some (.string en) := hca 8
  have y9 : wa.cell? ⟨w.heap.size, 9, none⟩ = some (.int .i64 hi) := hca 9
  have y10 : wa.cell? ⟨w.heap.size, 10, none⟩ = some (.int .i64 lo) := hca 10
  have y11 : wa.cell? ⟨w.heap.size, 11, none⟩ = some (.slice A args.length cap) := hca 11
  have y12 : wa.cell? ⟨w.heap.size, 12, none⟩ = some (.slice A1 thn.length c1) := hca 12
  have y13 : wa.cell? ⟨w.heap.size, 13, none⟩ = some (.slice A2 els.length c2) := hca 13
  have hza : wa.cell? ⟨0, 0, none⟩ = some (.int .i64 m) := (hba.cell (p := ⟨0, 0, none⟩) (by show 0 < _; omega)).trans hz
  have hNh := isName_any head m wa (Nat.le_trans h1 (by decide)) hza
  have hNn := isName_any name m wa (Nat.le_trans h2' (by decide)) hza
  clear hca
  have hX1 := hX0 wa hba
  clear hX0 hr he hT hE hs hel
  replace hba := hide hba
  have hle : w.heap.size ≤ wa.heap.size := by omega
  have hbw : (thn.length : Int) + (els.length : Int) ≤ 9223372036854775807 := by unfold sm at hsm; omega
  show Calls _ _ #[.agg #[.int .u8 kind, .string head, .string name, .int .u8 op, .int .i64 lit.1, .int .u64 lit.2.1, .int .u64 lit.2.2, .string eh, .string en, .int .i64 hi, .int .i64 lo, .slice A args.length cap, .slice A1 thn.length c1, .slice A2 els.length c2], .int .i64 (deep : Int)] _ _
  have hbz : ¬ ((thn.length : Int) + (els.length : Int) > 0) := by omega
  subst hk
  have hX : Hid (Calls Tryz.prog 163 #[.agg #[.int .u8 op, .int .i64 lit.1, .int .u64 lit.2.1, .int .u64 lit.2.2, .string eh, .string en, .int .i64 hi, .int .i64 lo, .slice A args.length cap]] wa fun r w' => r = .returned (.bool (noEx (.mk op lit eh en hi lo args))) ∧ Below wa.heap.size wa w') := hide hX1
  clear hX1
  generalize noEx (.mk op lit eh en hi lo args) = z at hX ⊢
  by_cases e1 : head = strE
  · rw [decide_eq_true e1]
    have q1 := emp_iff.1 e1
    clear e1 hNh
    generalize nameB name = y at hNn ⊢
    cases y with
    | false =>
      go_enter Tryz.func115, Tryz.ntmps115
      go_wp2_with (go_at_call 35; refine hNn.mono ?_; rintro e w' ⟨rfl, rfl⟩)
      go_ret
      exact ⟨rfl, hba.out⟩
    | true =>
      go_enter Tryz.func115, Tryz.ntmps115
      go_wp2_with (first | (go_at_call 35; refine hNn.mono ?_; rintro e w' ⟨rfl, rfl⟩) | (go_at_call 163; refine hX.out.mono ?_; rintro e w1 ⟨rfl, hb1⟩))
      go_ret
      exact ⟨rfl, hba.out.trans (hb1.mono hle)⟩
  · rw [decide_eq_false e1]
    have q1 := fun h => e1 (emp_iff.2 h)
    clear e1
    go_enter Tryz.func115, Tryz.ntmps115
    go_wp2
    go_ret
    exact ⟨rfl, hba.out⟩
end Go.Proofs.YtcgmkjpgaigmfaaGreat
/-! Layer 4: mayStmt at a drop, a forward, a set. -/
namespace Go.Proofs.YtcgmkjpgaigmfaaGreat
open Go.RowKit
theorem emp_add {a b : ByteArray} : (a = strE ∧ b = strE) ↔ (a ++ b).toList = [] := by
  rw [← emp_iff]
  constructor
  · rintro ⟨rfl, rfl⟩; rfl
  · intro h
    have : (a ++ b).size = 0 := by rw [h]; rfl
    rw [ByteArray.size_append] at this
    refine ⟨ByteArray.ext (Array.eq_empty_of_size_eq_zero ?_), ByteArray.ext (Array.eq_empty_of_size_eq_zero ?_)⟩
    · show a.size = 0; omega
    · show b.size = 0; omega
set_option maxRecDepth 200000 in
set_option maxHeartbeats 400000 in
theorem mays_drop {m : Int} {B : Nat} (kind : Int) (hk : kind = 4) (head name : ByteArray) (e : Ex) (thn els : List St) (cs : List Value) (w : World) (deep : Nat) (hr : rSt w B cs (.mk kind head name e thn els)) (hel : cs.length = 14)
    (hB : B ≤ w.heap.size) (h00 : 0 < B) (hz : w.cell? ⟨0, 0, none⟩ = some (.int .i64 m)) (hb : thn.length + els.length = 0) :
    Calls Tryz.prog 115 #[.agg cs.toArray, .int .i64 (deep : Int)] w fun r w' => r = .returned (.bool (mayS (.mk kind head name e thn els) deep)) ∧ Below w.heap.size w w' := by
  have hv : mayS (.mk kind head name e thn els) deep = (decide (head = strE ∧ name = strE) && noEx e) := by
    simp [mayS, emp2 hb, hk, Bool.and_assoc]
  rw [hv]
  clear hv
  obtain ⟨es, A1, c1, A2, c2, rfl, h0, h1, h2', he, hT, hE⟩ := RS.inv hr
  have hsm := RS.small hr
  have l1 := hT.len
  have l2 := hE.len
  have hX0 := fun (W : World) (hb : Below w.heap.size w W) => isNone_any e es W (sta_ex.keep he fun q hq => (hb.mono hB).cell hq)
  obtain ⟨op, lit, eh, en, hi, lo, args⟩ := e
  obtain ⟨A, cap, rfl, -, -, -, -, -, -, hs⟩ := RE.inv he
  have hla := hs.len
  obtain ⟨wa, hwa, hsa, hba, hca, -⟩ := box1 w #[.int .u8 kind, .string head, .string name, .int .u8 op, .int .i64 lit.1, .int .u64 lit.2.1, .int .u64 lit.2.2, .string eh, .string en, .int .i64 hi, .int .i64 lo, .slice A args.length cap, .slice A1 thn.length c1, .slice A2 els.length c2] 75
  have y0 : wa.cell? ⟨w.heap.size, 0, none⟩ = some (.int .u8 kind) := hca 0
  have y1 : wa.cell? ⟨w.heap.size, 1, none⟩ = some (.string head) := hca 1
  have y2 : wa.cell? ⟨w.heap.size, 2, none⟩ = some (.string name) := hca 2
  have y3 : wa.cell? ⟨w.heap.size, 3, none⟩ = some (.int .u8 op) := hca 3
  have y4 : wa.cell? ⟨w.heap.size, 4, none⟩ = some (.int .i64 lit.1) := hca 4
  have y5 : wa.cell? ⟨w.heap.size, 5, none⟩ = some (.int .u64 lit.2.1) := hca 5
  have y6 : wa.cell? ⟨w.heap.size, 6, none⟩ = some (.int .u64 lit.2.2) := hca 6
  have y7 : wa.cell? ⟨w.heap.size, 7, none⟩ = some (.string eh) := hca 7
  have y8 : wa.cell? ⟨w.heap.size, 8, none⟩ = some (.string en) := hca 8
  have y9 : wa.cell? ⟨w.heap.size, 9, none⟩ = some (.int .i64 hi) := hca 9
  have y10 : wa.cell? ⟨w.heap.size, 10, none⟩ = some (.int .i64 lo) := hca 10
  have y11 : wa.cell? ⟨w.heap.size, 11, none⟩ = some (.slice A args.length cap) := hca 11
  have y12 : wa.cell? ⟨w.heap.size, 12, none⟩ = some (.slice A1 thn.length c1) := hca 12
  have y13 : wa.cell? ⟨w.heap.size, 13, none⟩ = some (.slice A2 els.length c2) := hca 13
  have hza : wa.cell? ⟨0, 0, none⟩ = some (.int .i64 m) := (hba.cell (p := ⟨0, 0, none⟩) (by show 0 < _; omega)).trans hz
  have hNh := isName_any head m wa (Nat.le_trans h1 (by decide)) hza
  have hNn := isName_any name m wa (Nat.le_trans h2' (by decide)) hza
  clear hca
  have hX1 := hX0 wa hba
  clear hX0 hr he hT hE hs hel
  replace hba := hide hba
  have hle : w.heap.size ≤ wa.heap.size := by omega
  have hbw : (thn.length : Int) + (els.length : Int) ≤ 9223372036854775807 := by unfold sm at hsm; omega
  show Calls _ _ #[.agg #[.int .u8 kind, .string head, .string name, .int .u8 op, .int .i64 lit.1, .int .u64 lit.2.1, .int .u64 lit.2.2, .string eh, .string en, .int .i64 hi, .int .i64 lo, .slice A args.length cap, .slice A1 thn.length c1, .slice A2 els.length c2], .int .i64 (deep : Int)] _ _
  have hbz : ¬ ((thn.length : Int) + (els.length : Int) > 0) := by omega
  have hcat : head.size + name.size ≤ 9223372036854775807 := by unfold sm at h1 h2'; omega
  subst hk
  have hX : Hid (Calls Tryz.prog 163 #[.agg #[.int .u8 op, .int .i64 lit.1, .int .u64 lit.2.1, .int .u64 lit.2.2, .string eh, .string en, .int .i64 hi, .int .i64 lo, .slice A args.length cap]] wa fun r w' => r = .returned (.bool (noEx (.mk op lit eh en hi lo args))) ∧ Below wa.heap.size wa w') := hide hX1
  clear hX1
  generalize noEx (.mk op lit eh en hi lo args) = z at hX ⊢
  clear hNh hNn
  by_cases e1 : head = strE ∧ name = strE
  · rw [decide_eq_true e1]
    have q1 := emp_add.1 e1
    clear e1
    go_enter Tryz.func115, Tryz.ntmps115
    go_wp2_with (go_at_call 163; refine hX.out.mono ?_; rintro e w1 ⟨rfl, hb1⟩)
    go_ret
    exact ⟨rfl, hba.out.trans (hb1.mono hle)⟩
  · rw [decide_eq_false e1]
    have q1 := fun h => e1 (emp_add.2 h)
    clear e1
    go_enter Tryz.func115, Tryz.ntmps115
    go_wp2
    go_ret
    exact ⟨rfl, hba.out⟩
end Go.Proofs.YtcgmkjpgaigmfaaGreat

import Derived.Test.YtmfpbahifhndjaaGreatLow08
import Derived.Test.YtmfpbahifhndjaaGreatLow14
import Derived.Carry
import Derived.Test.YtmfpbahifhndjaaGreatLow03
set_option linter.all false
/-! Layer 4: the map of forms, as it is made. -/
namespace Go.Proofs.YtmfpbahifhndjaaGreat
open Go.RowKit
theorem rows_succ {n : Nat} {f : Fm} (h : formOf ((n : Int) + 1) = some f) : formRows (n + 1) = formRows n ++ [((n : Int) + 1, f)] := by
 unfold formRows
 rw [List.range_succ, List.filterMap_append]
 simp [h]
theorem rows_none {n : Nat} {e : Int} (h : (n : Int) < e) : lookF (formRows n) e = none := by
 have := look_range e (List.range n)
 rw [if_neg (by rintro ⟨i, hi, he⟩; rw [List.mem_range] at hi; omega)] at this
 unfold formRows
 cases hl : lookF (List.filterMap (fun (i : Nat) => (formOf ((i : Int) + 1)).map fun f => ((i : Int) + 1, f)) (List.range n)) e with
 | none => rfl
 | some y => rw [hl] at this; cases this
theorem row_in {w : World} {b : Nat} {n : Nat} (f : Fm) (h : FmS w b (formRows n)) (hf : formOf ((n : Int) + 1) = some f) :
  ∃ w', (Instr.mapUpdate 158 (.map (some b)) (.int .u8 ((n : Int) + 1)) (fmV f)).run Tryz.prog w = .ok () w' ∧ FmS w' b (formRows (n + 1)) ∧ (∀ B, B ≤ b → Below B w w') ∧ w'.heap.size = w.heap.size := by
 have h1 := run_updateF h f (e := (n : Int) + 1) (rows_none (by omega))
 rw [← rows_succ hf] at h1
 exact ⟨_, h1, fmS_put h, fun B hB => below_putF (Below.refl _ _) hB, by simp [putF]⟩
set_option maxRecDepth 100000 in
set_option maxHeartbeats 4000000 in
theorem forms_any (w : World) : Calls Tryz.prog 97 #[] w fun e w' => e = .returned (.map (some w.heap.size)) ∧ FmS w' w.heap.size (formRows 26) ∧ Below w.heap.size w w' := by
 have hmm := @run_makeMap Tryz.prog
 have f0 : FmS (w.alloc (.map #[] 0)) w.heap.size (formRows 0) := by
  have : (w.alloc (.map #[] 0)).heap[w.heap.size]? = some (.map #[] 0) := heap_alloc_new w _
  exact this
 obtain ⟨w0, hw0⟩ : ∃ w0, w.alloc (.map #[] 0) = w0 := ⟨_, rfl⟩
 have b0 : Below w.heap.size w w0 := by rw [← hw0]; exact (Below.refl _ _).alloc (Nat.le_refl _) _
 rw [hw0] at f0
 obtain ⟨w1, r1, f1, g1, -⟩ := row_in ((false, false, true, false), 0) f0 (by decide)
 have b1 := b0.trans (g1 _ (Nat.le_refl _))
 replace r1 : (Instr.mapUpdate 158 (.map (some w.heap.size)) (.int .u8 1) (.agg #[.bool false, .bool false, .bool true, .bool false, .int .i64 0])).run Tryz.prog w0 = .ok () w1 := r1
 obtain ⟨w2, r2, f2, g2, -⟩ := row_in ((true, true, false, false), 0) f1 (by decide)
 have b2 := b1.trans (g2 _ (Nat.le_refl _))
 replace r2 : (Instr.mapUpdate 158 (.map (some w.heap.size)) (.int .u8 2) (.agg #[.bool true, .bool true, .bool false, .bool false, .int .i64 0])).run Tryz.prog w1 = .ok () w2 := r2
 obtain ⟨w3, r3, f3, g3, -⟩ := row_in ((false, true, false, false), 0) f2 (by decide)
 have b3 := b2.trans (g3 _ (Nat.le_refl _))
 replace r3 : (Instr.mapUpdate 158 (.map (some w.heap.size)) (.int .u8 3) (.agg #[.bool false, .bool true, .bool false, .bool false, .int .i64 0])).run Tryz.prog w2 = .ok () w3 := r3
 obtain ⟨w4, r4, f4, g4, -⟩ := row_in ((false, true, false, false), 0) f3 (by decide)
 have b4 := b3.trans (g4 _ (Nat.le_refl _))
 replace r4 : (Instr.mapUpdate 158 (.map (some w.heap.size)) (.int .u8 4) (.agg #[.bool false, .bool true, .bool false, .bool false, .int .i64 0])).run Tryz.prog w3 = .ok () w4 := r4
 obtain ⟨w5, r5, f5, g5, -⟩ := row_in ((false, false, false, false), 0) f4 (by decide)
 have b5 := b4.trans (g5 _ (Nat.le_refl _))
 replace r5 : (Instr.mapUpdate 158 (.map (some w.heap.size)) (.int .u8 5) (.agg #[.bool false, .bool false, .bool false, .bool false, .int .i64 0])).run Tryz.prog w4 = .ok () w5 := r5
 obtain ⟨w6, r6, f6, g6, -⟩ := row_in ((true, false, false, false), 0) f5 (by decide)
 have b6 := b5.trans (g6 _ (Nat.le_refl _))
 replace r6 : (Instr.mapUpdate 158 (.map (some w.heap.size)) (.int .u8 6) (.agg #[.bool true, .bool false, .bool false, .bool false, .int .i64 0])).run Tryz.prog w5 = .ok () w6 := r6
 obtain ⟨w7, r7, f7, g7, -⟩ := row_in ((false, false, false, false), 1) f6 (by decide)
 have b7 := b6.trans (g7 _ (Nat.le_refl _))
 replace r7 : (Instr.mapUpdate 158 (.map (some w.heap.size)) (.int .u8 7) (.agg #[.bool false, .bool false, .bool false, .bool false, .int .i64 1])).run Tryz.prog w6 = .ok () w7 := r7
 obtain ⟨w8, r8, f8, g8, -⟩ := row_in ((false, false, false, false), 1) f7 (by decide)
 have b8 := b7.trans (g8 _ (Nat.le_refl _))
 replace r8 : (Instr.mapUpdate 158 (.map (some w.heap.size)) (.int .u8 8) (.agg #[.bool false, .bool false, .bool false, .bool false, .int .i64 1])).run Tryz.prog w7 = .ok () w8 := r8
 obtain ⟨w9, r9, f9, g9, -⟩ := row_in ((false, false, false, false), 1) f8 (by decide)
 have b9 := b8.trans (g9 _ (Nat.le_refl _))
 replace r9 : (Instr.mapUpdate 158 (.map (some w.heap.size)) (.int .u8 9) (.agg #[.bool false, .bool false, .bool false, .bool false, .int .i64 1])).run Tryz.prog w8 = .ok () w9 := r9
 obtain ⟨w10, r10, f10, g10, -⟩ := row_in ((false, false, false, true), 1) f9 (by decide)
 have b10 := b9.trans (g10 _ (Nat.le_refl _))
 replace r10 : (Instr.mapUpdate 158 (.map (some w.heap.size)) (.int .u8 10) (.agg #[.bool false, .bool false, .bool false, .bool true, .int .i64 1])).run Tryz.prog w9 = .ok () w10 := r10
 replace f10 := hide f10
 replace b10 := hide b10
 clear f0 g1 b0 f1 g2 b1 f2 g3 b2 f3 g4 b3 f4 g5 b4 f5 g6 b5 f6 g7 b6 f7 g8 b7 f8 g9 b8 f9 g10 b9
 go_enter Tryz.func97, Tryz.ntmps97
 go_wp2_with fail
 clear hmm r1 r2 r3 r4 r5 r6 r7 r8 r9 r10 hw0
 go_loopw [2] (fun o wr => ∃ k : Nat, 10 ≤ k ∧ k ≤ 26 ∧ o = .int .u8 ((k : Int) + 1) ∧ Hid (FmS wr w.heap.size (formRows k)) ∧ Hid (Below w.heap.size w wr)) (fun o _ => (27 - intOf o).toNat)
 case atStart => exact ⟨10, by omega, by omega, rfl, f10, b10⟩
 case round =>
  obtain ⟨k, hk1, hk2, rfl, hf, hb⟩ := hrel
  by_cases hlt : k < 26
  ·have hle : (k : Int) + 1 ≤ 26 := by omega
   have hfo : formOf ((k : Int) + 1) = some ((false, false, false, false), 2) := by
    unfold formOf
    repeat (rw [if_neg (by omega)])
    rw [if_pos (by omega)]
   obtain ⟨wn, rn, fn, gn, -⟩ := row_in ((false, false, false, false), 2) hf.out hfo
   replace rn : (Instr.mapUpdate 158 (.map (some w.heap.size)) (.int .u8 ((k : Int) + 1)) (.agg #[.bool false, .bool false, .bool false, .bool false, .int .i64 2])).run Tryz.prog wr = .ok () wn := rn
   have hbn := hide (hb.out.trans (gn _ (Nat.le_refl _)))
   replace fn := hide fn
   clear gn hfo
   have hw8 : IntKind.u8.wrap ((k : Int) + 1 + 1) = (k : Int) + 1 + 1 := by rw [IntKind.wrap_u8']; omega
   go_wp2
   go_roundw
   case rel => exact ⟨k + 1, by omega, by omega, by go_num, fn, hbn⟩
   case measure => simp [intOf]; omega
  ·have hle : ¬ (k : Int) + 1 ≤ 26 := by omega
   have hke : k = 26 := by omega
   subst hke
   go_wp2
   go_ret
   exact ⟨rfl, hf.out, hb.out⟩
end Go.Proofs.YtmfpbahifhndjaaGreat
/-! Layer 1: Cmp, Of. -/
namespace Go.Proofs.YtmfpbahifhndjaaGreat
open Go.RowKit
def cmpI (a b : Int) : Int := if a < b then -1 else if b < a then 1 else 0
theorem isNaN_any (a : Int) (w : World) : Calls Tryz.prog 134 #[.int .u64 a] w fun e w' => e = .returned (.bool false) ∧ w = w' := by
 go_enter Tryz.func134, Tryz.ntmps134
 go_wp2
 go_ret
 exact ⟨ret_b (by simp), rfl⟩
set_option maxHeartbeats 400000 in
theorem compare_any (a b : Int) (w : World) : Calls Tryz.prog 120 #[.int .u64 a, .int .u64 b] w fun e w' => e = .returned (.int .i64 (cmpI a b)) ∧ w' = w := by
 go_enter Tryz.func120, Tryz.ntmps120
 by_cases h1 : a < b
 ·have hv := hide (show cmpI a b = -1 from by unfold cmpI; rw [if_pos h1])
  go_wp2_with (go_at_call 134; refine (isNaN_any _ _).mono ?_; rintro e w' ⟨rfl, rfl⟩)
  go_ret
  exact ⟨ret_int hv.out.symm, rfl⟩
 ·by_cases h2 : b < a
  ·have hv := hide (show cmpI a b = 1 from by unfold cmpI; rw [if_neg h1, if_pos h2])
   go_wp2_with (go_at_call 134; refine (isNaN_any _ _).mono ?_; rintro e w' ⟨rfl, rfl⟩)
   go_ret
   exact ⟨ret_int hv.out.symm, rfl⟩
  ·have hv := hide (show cmpI a b = 0 from by unfold cmpI; rw [if_neg h1, if_neg h2])
   go_wp2_with (go_at_call 134; refine (isNaN_any _ _).mono ?_; rintro e w' ⟨rfl, rfl⟩)
   go_ret
   exact ⟨ret_int hv.out.symm, rfl⟩
def orI (x y : Int) : Int := if x = 0 then y else x
set_option maxHeartbeats 400000 in
theorem cmpOr_any (x y : Int) (b : Nat) (w : World) (h0 : w.cell? ⟨b, 0, none⟩ = some (.int .i64 x)) (h1 : w.cell? ⟨b, 1, none⟩ = some (.int .i64 y)) :
  Calls Tryz.prog 119 #[.slice (some ⟨b, 0, none⟩) 2 2] w fun e w' => e = .returned (.int .i64 (orI x y)) ∧ w = w' := by
 have hc : ∀ k : Nat, k < 2 → w.cell? ⟨b, k, none⟩ = some (.int .i64 (if k = 0 then x else y)) := fun k hk => by
  rcases k with _ | _ | k
  ·exact h0
  ·exact h1
  ·omega
 replace hc := hide hc
 clear h0 h1
 go_enter Tryz.func119, Tryz.ntmps119
 go_wp2
 go_loop [8] (fun i => ∃ k : Nat, k ≤ 2 ∧ i = .int .i64 k ∧ Hid (1 ≤ k → x = 0) ∧ Hid (2 ≤ k → y = 0)) (fun i => 2 - (intOf i).toNat)
 case atStart => exact ⟨0, by omega, rfl, hide (by omega), hide (by omega)⟩
 case round =>
  obtain ⟨k, hk, rfl, hx, hy⟩ := hrel
  by_cases hlt : k < 2
  ·have hcell := hc.out k hlt
   have hltz : (k : Int) < 2 := by omega
   generalize hz : (if k = 0 then x else y) = z at hcell
   replace hz := hide hz
   by_cases h0 : z = 0
   ·have hb : (z != 0) = false := by simpa using h0
    have h0' := hide h0
    clear h0
    go_wp2
    go_round
    case rel =>
     refine ⟨k + 1, by omega, by go_num, hide fun _ => ?_, hide fun h2 => ?_⟩
     ·by_cases hk0 : k = 0
      ·have := hz.out; rw [if_pos hk0] at this; rw [this]; exact h0'.out
      ·exact hx.out (by omega)
     ·have := hz.out; rw [if_neg (by omega)] at this; rw [this]; exact h0'.out
    case measure => simp [intOf]; omega
   ·have hb : (z != 0) = true := by simpa using h0
    have hv := hide (show orI x y = z from by
     unfold orI
     by_cases hk0 : k = 0
     ·have := hz.out; rw [if_pos hk0] at this; subst this; rw [if_neg h0]
     ·have := hz.out; rw [if_neg hk0] at this; rw [if_pos (hx.out (by omega))]; exact this)
    clear h0
    go_wp2
    go_ret
    exact ⟨ret_int hv.out.symm, rfl⟩
  ·have hv := hide (show orI x y = 0 from by unfold orI; rw [if_pos (hx.out (by omega))]; exact hy.out (by omega))
   go_wp2
   go_ret
   exact ⟨ret_int hv.out.symm, rfl⟩
set_option maxRecDepth 100000 in
set_option maxHeartbeats 1000000 in
theorem cmp_any (a b c d : Int) (w : World) : Calls Tryz.prog 101 #[.agg #[.int .u64 a, .int .u64 b], .agg #[.int .u64 c, .int .u64 d]] w fun e w' => e = .returned (.int .i64 (orI (cmpI a c) (cmpI b d))) ∧ Below w.heap.size w w' := by
 go_enter Tryz.func101, Tryz.ntmps101
 go_wp2_with fail
 refine wp_region_still_tail 10 (by kernel_rfl) (by kernel_rfl) ?_
 simp only [List.take_succ_cons, List.take_zero, List.drop_succ_cons, List.drop_zero]
 change wpStill _ _ (World.drew _) _ _ _
 iterate 4 still_step
 still_call (compare_any _ _ _)
 iterate 4 still_step
 still_call (compare_any _ _ _)
 refine wpStill_nil ?_
 change wpList _ _ _ _ _ (World.drew _)
 go_wp2_with fail
 refine (cmpOr_any (cmpI a c) (cmpI b d) _ _ (by go_simp) (by go_simp)).mono ?_
 rintro e w1 ⟨rfl, rfl⟩
 go_wp2
 go_ret
 exact ⟨rfl, ((((Below.refl _ _).alloc (Nat.le_refl _) _).alloc (by simp) _).alloc (by simp; omega) _).drew⟩
theorem cmp_127 (l : Lt) (hl : okLt l) : decide (0 < orI (cmpI l.2.1 0) (cmpI l.2.2 127)) = !decide (numV l ≤ 127) := by
 obtain ⟨-, ⟨a0, a1⟩, b0, b1⟩ := hl
 have key : 0 < orI (cmpI l.2.1 0) (cmpI l.2.2 127) ↔ ¬ numV l ≤ 127 := by
  unfold numV
  have e1 : cmpI l.2.1 0 = if l.2.1 = 0 then 0 else 1 := by
   unfold cmpI
   rw [if_neg (by omega)]
   by_cases h : l.2.1 = 0
   ·rw [if_neg (by omega), if_pos h]
   ·rw [if_pos (by omega), if_neg h]
  rw [e1]
  by_cases h : l.2.1 = 0
  ·rw [if_pos h]
   unfold orI cmpI
   rw [if_pos rfl]
   by_cases h3 : l.2.2 < 127
   ·rw [if_pos h3]; omega
   ·rw [if_neg h3]
    by_cases h4 : 127 < l.2.2
    ·rw [if_pos h4]; omega
    ·rw [if_neg h4]; omega
  ·rw [if_neg h]
   unfold orI
   rw [if_neg (by omega)]
   omega
 rw [Bool.eq_iff_iff]
 simp [key]
set_option maxHeartbeats 1000000 in
theorem of_any (a : Int) (w : World) : Calls Tryz.prog 102 #[.int .u64 a] w fun e w' => e = .returned (.agg #[.int .u64 0, .int .u64 a]) ∧ Below w.heap.size w w' := by
 go_enter Tryz.func102, Tryz.ntmps102
 go_wp2
 exact bodyPost_ret (v := .agg #[.int .u64 0, .int .u64 a]) (by simp [results, Tryz.results102, go_sem]) rfl ⟨rfl, (Below.refl _ _).alloc (Nat.le_refl _) _⟩
end Go.Proofs.YtmfpbahifhndjaaGreat
/-! Plain: the same, in the shape that the code asks it: an expression with so much depth left. -/
namespace Go.Proofs.YtmfpbahifhndjaaGreat
def mayN (e : Ex) (n : Nat) : Bool := decide (depthE e ≤ n) && allE e
theorem mayN_zero (e : Ex) : mayN e 0 = false := by
 have : 1 ≤ depthE e := by cases e; simp only [depthE]; omega
 simp [mayN]; omega
theorem depthL_le {n : Nat} : ∀ l : List Ex, depthL l ≤ n ↔ ∀ x ∈ l, depthE x ≤ n
 | [] => by simp [depthL]
 | x :: l => by
  have := depthL_le (n := n) l
  simp only [depthL, List.mem_cons, forall_eq_or_imp, ← this]
  omega
theorem mayN_succ (op : Int) (lit : Lt) (head name : ByteArray) (hi lo : Int) (args : List Ex) (n : Nat) :
  mayN (.mk op lit head name hi lo args) (n + 1) = (oneB op lit head name hi lo args.length && (shB op args && args.all fun x => mayN x n)) := by
 unfold mayN
 have h1 : decide (depthE (.mk op lit head name hi lo args) ≤ n + 1) = decide (depthL args ≤ n) := by
  simp only [depthE]; rw [Bool.eq_iff_iff]; simp
 have h2 : (args.all fun x => decide (depthE x ≤ n) && allE x) = (decide (depthL args ≤ n) && args.all allE) := by
  rw [Bool.eq_iff_iff]
  simp only [List.all_eq_true, Bool.and_eq_true, decide_eq_true_eq, depthL_le]
  exact ⟨fun h => ⟨fun x hx => (h x hx).1, fun x hx => (h x hx).2⟩, fun h x hx => ⟨h.1 x hx, h.2 x hx⟩⟩
 rw [h1, h2, allE, allL_all]
 cases oneB op lit head name hi lo args.length <;> cases shB op args <;> simp
theorem mayE_eq (e : Ex) : mayE e = mayN e 16 := rfl
end Go.Proofs.YtmfpbahifhndjaaGreat
/-! Layer 4: MayExpr: the closure that asks each expression. -/
namespace Go.Proofs.YtmfpbahifhndjaaGreat
open Go.RowKit
/-- What the closure holds: the map of forms, itself; and what lies at the foot of memory. -/
structure Kin (bk bf bm : Nat) (m : Int) (B : Nat) (w : World) : Prop where
 k : w.cell? ⟨bk, 0, none⟩ = some (.map (some bm))
 f : w.cell? ⟨bf, 0, none⟩ = some (.func (.func 98) #[] #[.pointer (some ⟨bk, 0, none⟩), .pointer (some ⟨bf, 0, none⟩)])
 mp : FmS w bm (formRows 26)
 z : w.cell? ⟨0, 0, none⟩ = some (.int .i64 m)
 lt : bk < B ∧ bf < B ∧ bm < B ∧ 0 < B
theorem Kin.below {bk bf bm : Nat} {m : Int} {B : Nat} {w w' : World} (h : Kin bk bf bm m B w) (hb : Below B w w') : Kin bk bf bm m B w' :=
 ⟨(hb.cell (p := ⟨bk, 0, none⟩) h.lt.1).trans h.k, (hb.cell (p := ⟨bf, 0, none⟩) h.lt.2.1).trans h.f, h.mp.below hb h.lt.2.2.1, (hb.cell (p := ⟨0, 0, none⟩) h.lt.2.2.2).trans h.z, h.lt⟩
def MayIs (bk bf bm : Nat) (m : Int) (B : Nat) (e : Ex) : Prop := ∀ (cs : List Value) (w : World) (n : Nat), n ≤ 16 → B ≤ w.heap.size → Kin bk bf bm m B w → rEx w B cs e →
 Calls Tryz.prog 98 #[.agg cs.toArray, .int .i64 (n : Int), .pointer (some ⟨bk, 0, none⟩), .pointer (some ⟨bf, 0, none⟩)] w fun r w' => r = .returned (.bool (mayN e n)) ∧ Below w.heap.size w w'
theorem enters_may1 : ∀ args w, (callFunc 98 args).run Tryz.prog w = .ok (.enter 98 args) w := enters_of Tryz.func98 (by kernel_rfl) rfl
theorem enters_may11 : ∀ args w, (callFunc 104 args).run Tryz.prog w = .ok (.enter 104 args) w := enters_of Tryz.func104 (by kernel_rfl) rfl
set_option maxHeartbeats 1000000 in
theorem may11_any {bk bf bm : Nat} {m : Int} {B : Nat} {e : Ex} (ih : MayIs bk bf bm m B e) (cs : List Value) (w : World) (n bl : Nat) (hn : n ≤ 15) (hB : B ≤ w.heap.size) (hK : Kin bk bf bm m B w) (he : rEx w B cs e)
  (hl : w.cell? ⟨bl, 0, none⟩ = some (.int .i64 ((n : Int) + 1))) :
  Calls Tryz.prog 104 #[.agg cs.toArray, .pointer (some ⟨bf, 0, none⟩), .pointer (some ⟨bl, 0, none⟩)] w fun r w' => r = .returned (.bool (mayN e n)) ∧ Below w.heap.size w w' := by
 have he' := he
 obtain ⟨op, lit, head, name, hi, lo, args⟩ := e
 obtain ⟨A, cap, rfl, -, -, -, -, -, -, hs⟩ := RE.inv he
 have hla := hs.len
 obtain ⟨wa, hwa, hsa, hba, hca, -⟩ := box1 w #[.int .u8 op, .int .i64 lit.1, .int .u64 lit.2.1, .int .u64 lit.2.2, .string head, .string name, .int .i64 hi, .int .i64 lo, .slice A args.length cap] 65
 have hbl : bl < w.heap.size := World.block_lt_of_cell? w _ hl
 have hX := hide (ih _ wa n (by omega) (by omega) (hK.below (hba.mono hB)) (sta_ex.keep he' fun q hq => (hba.mono hB).cell hq))
 have l0 : wa.cell? ⟨bl, 0, none⟩ = some (.int .i64 ((n : Int) + 1)) := (hba.cell (p := ⟨bl, 0, none⟩) hbl).trans hl
 have f0 : wa.cell? ⟨bf, 0, none⟩ = some _ := (hK.below (hba.mono hB)).f
 obtain ⟨y0, y1, y2, y3, y4, y5, y6, y7, y8⟩ := row9 hca
 have eg := enters_may1
 show Calls _ _ #[.agg #[.int .u8 op, .int .i64 lit.1, .int .u64 lit.2.1, .int .u64 lit.2.2, .string head, .string name, .int .i64 hi, .int .i64 lo, .slice A args.length cap], .pointer (some ⟨bf, 0, none⟩), .pointer (some ⟨bl, 0, none⟩)] _ _
 replace hba := hide hba
 have hle : w.heap.size ≤ wa.heap.size := by omega
 generalize mayN (.mk op lit head name hi lo args) n = z at hX ⊢
 clear hca hs hl he he' ih hK
 go_enter Tryz.func104, Tryz.ntmps104
 go_wp2_with (go_at_fn 98; refine hX.out.mono ?_; rintro e w1 ⟨rfl, hb1⟩)
 go_ret
 exact ⟨rfl, hba.out.trans (hb1.mono hle)⟩
end Go.Proofs.YtmfpbahifhndjaaGreat

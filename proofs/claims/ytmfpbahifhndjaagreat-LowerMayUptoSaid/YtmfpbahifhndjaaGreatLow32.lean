import Derived.Test.YtmfpbahifhndjaaGreatLow06
import Derived.WideKeyRuns
import Derived.WalkKit
import Derived.Test.YtmfpbahifhndjaaGreatLow12
import Derived.Laws.EntriesVeiled
import Derived.Test.YtmfpbahifhndjaaGreatLow13
set_option linter.all false
/-! A map from numbers to numbers, that a call makes: its rows as a list. -/
set_option linter.all false
namespace Go.Proofs.YtmfpbahifhndjaaGreat
open Go.RowKit
theorem run_check_i (a : Int) (e : Bool) (w : World) : (Instr.checkKey e 10000 3 (.int .i64 a)).run Tryz.prog w = .ok () w := by
 have hk : ∀ n : Nat, (Instr.checkKey e (n + 1) 3 (.int .i64 a)).run Tryz.prog w = .ok () w := fun n => by simp [Instr.checkKey, run_underlying Tryz.underlying3]
 exact hk 9999
abbrev NN := List (Int × Int)
def nL (o : Nat) (M : NN) : List MapEntry := (M.zipIdx o).map fun x => ⟨.int .i64 x.1.1, .int .i64 x.1.2, x.2⟩
def nEnt (M : NN) : Array MapEntry := (nL 0 M).toArray
def NmS (w : World) (b : Nat) (M : NN) : Prop := w.heap[b]? = some (.map (nEnt M) M.length)
def putN (w : World) (b : Nat) (M : NN) : World := { w with heap := w.heap.setIfInBounds b (.map (nEnt M) M.length) }
def lookN : NN → Int → Option (Nat × Int)
 | [], _ => none
 | x :: M, e => if e = x.1 then some (0, x.2) else (lookN M e).map fun y => (y.1 + 1, y.2)
theorem findNowN (e : Int) : ∀ (M : NN) (o i : Nat), Instr.findNow (.int .i64) (.int .i64 e) (nL o M) i = some ((lookN M e).map fun y => (i + y.1, .int .i64 y.2))
 | [], o, i => by simp [nL, Instr.findNow, lookN]
 | x :: M, o, i => by
  have ih := findNowN e M (o + 1) (i + 1)
  have hm : nL o (x :: M) = ⟨.int .i64 x.1, .int .i64 x.2, o⟩ :: nL (o + 1) M := by simp [nL, List.zipIdx_cons]
  rw [hm]
  unfold Instr.findNow
  simp only [Instr.sameNow, if_true]
  by_cases h : e = x.1
  ·simp [lookN, h]
  ·have h' : (e == x.1) = false := by simpa using h
   simp only [h', lookN, if_neg h, ih]
   cases lookN M e with
   | none => simp
   | some y => simp; omega
theorem run_findKeyN (e : Int) (w : World) (M : NN) : (Instr.findKey 3 (.int .i64 e) (nEnt M).toList).run Tryz.prog w = .ok ((lookN M e).map fun y => (y.1, .int .i64 y.2)) w := by
 have := findNowN e M 0 0
 unfold Instr.findKey
 simp only [Sem.run_bind, run_underlying Tryz.underlying3, Result.andThen_ok, nEnt, this]
 simp
theorem run_getObjN {w : World} {b : Nat} {M : NN} (h : NmS w b M) : (getObj b).run Tryz.prog w = .ok (.map (nEnt M) M.length) w := by
 unfold NmS at h
 simp [getObj, Sem.run, h]
theorem run_setObjN {w : World} {b : Nat} {M : NN} (h : NmS w b M) (M' : NN) (es : Array MapEntry) (c : Nat) (he : es = nEnt M') (hc : c = M'.length) : (setObj b (.map es c)).run Tryz.prog w = .ok () (putN w b M') := by
 unfold NmS at h
 subst he hc
 simp [setObj, Sem.run, h, putN]
theorem NmS.lt {w : World} {b : Nat} {M : NN} (h : NmS w b M) : b < w.heap.size := by
 rcases Nat.lt_or_ge b w.heap.size with h1 | h1
 ·exact h1
 ·unfold NmS at h; rw [Array.getElem?_eq_none h1] at h; cases h
theorem nmS_put {w : World} {b : Nat} {M M' : NN} (h : NmS w b M) : NmS (putN w b M') b M' := by
 have := h.lt
 simp [NmS, putN, this]
theorem NmS.alloc {w : World} {b : Nat} {M : NN} (h : NmS w b M) (o : Obj) : NmS (w.alloc o) b M := (Below.heap_alloc w o b h.lt).trans h
theorem NmS.below {w w' : World} {b B : Nat} {M : NN} (h : NmS w b M) (hb : Below B w w') (hB : b < B) : NmS w' b M := (hb.block b hB).trans h
theorem size_putN (w : World) (b : Nat) (M : NN) : (putN w b M).heap.size = w.heap.size := by simp [putN]
theorem putN_far {w : World} {b k : Nat} {M : NN} (h : k ≠ b) : (putN w b M).heap[k]? = w.heap[k]? := by simp only [putN]; rw [Array.getElem?_setIfInBounds_ne (fun e => h e.symm)]
theorem lkI_look (M : NN) (e : Int) : lkI M e = ((lookN M e).map fun y => y.2).getD 0 := by
 induction M with
 | nil => rfl
 | cons x M ih =>
  simp only [lkI, lookN]
  split
  ·rfl
  ·rw [ih]; cases lookN M e <;> rfl
theorem ptI_none {M : NN} {e v : Int} (h : lookN M e = none) : ptI M e v = M ++ [(e, v)] := by
 induction M with
 | nil => rfl
 | cons x M ih =>
  simp only [lookN] at h
  split at h
  ·cases h
  ·rename_i hx
   simp only [ptI, if_neg hx, List.cons_append]
   rw [ih (by cases hl : lookN M e with
    | none => rfl
    | some y => rw [hl] at h; cases h)]
theorem ptI_some {M : NN} {e v : Int} {y : Nat × Int} (h : lookN M e = some y) : ptI M e v = M.set y.1 (e, v) ∧ M[y.1]? = some (e, y.2) := by
 induction M generalizing y with
 | nil => cases h
 | cons x M ih =>
  simp only [lookN] at h
  split at h
  ·rename_i hx
   injection h with h
   subst h
   subst hx
   simp [ptI]
  ·rename_i hx
   cases hl : lookN M e with
   | none => rw [hl] at h; cases h
   | some z =>
    rw [hl] at h
    injection h with h
    subst h
    have := ih hl
    simp only [ptI, if_neg hx, List.set_cons_succ, this.1]
    exact ⟨trivial, by simpa using this.2⟩
theorem run_lookupN {w : World} {b : Nat} {M : NN} (h : NmS w b M) (e : Int) : (Instr.lookup 129 (.map (some b)) (.int .i64 e) false).run Tryz.prog w = .ok (.int .i64 (lkI M e)) w := by
 have hz : (zeroValue 3).run Tryz.prog w = .ok (.int .i64 0) w := by go_simp
 rw [lkI_look]
 unfold Instr.lookup
 simp only [Sem.run_bind, run_underlying Tryz.underlying129, Result.andThen_ok, run_getObjN h, Sem.run_pure, run_check_i, run_findKeyN]
 cases hl : lookN M e with
 | none => simp [hz]
 | some y => simp
theorem nL_get : ∀ (M : NN) (o i : Nat), (nL o M)[i]? = (M[i]?).map fun x => ⟨.int .i64 x.1, .int .i64 x.2, o + i⟩ := by
 intro M o i
 simp [nL, List.getElem?_map, List.getElem?_zipIdx]
 cases M[i]? <;> simp
theorem run_updateN {w : World} {b : Nat} {M : NN} (h : NmS w b M) (e v : Int) : (Instr.mapUpdate 129 (.map (some b)) (.int .i64 e) (.int .i64 v)).run Tryz.prog w = .ok () (putN w b (ptI M e v)) := by
 unfold Instr.mapUpdate
 simp only [Sem.run_bind, run_underlying Tryz.underlying129, Result.andThen_ok, run_getObjN h, run_check_i, run_findKeyN]
 cases hl : lookN M e with
 | none =>
  have hp : (nEnt M).push ⟨.int .i64 e, .int .i64 v, M.length⟩ = nEnt (M ++ [(e, v)]) := by simp [nEnt, nL, List.zipIdx_append]
  rw [ptI_none hl]
  simp only [Option.map_none, run_setObjN h (M ++ [(e, v)]) _ (M.length + 1) hp (by simp)]
 | some y =>
  obtain ⟨h1, h2⟩ := ptI_some (v := v) hl
  have hlt : y.1 < M.length := (List.getElem?_eq_some_iff.1 h2).1
  have hm : (nEnt M)[y.1]? = some ⟨.int .i64 e, .int .i64 y.2, y.1⟩ := by
   have := nL_get M 0 y.1
   rw [h2] at this
   simpa [nEnt] using this
  have hmod : (nEnt M).modify y.1 (fun x => { x with key := .int .i64 e, val := .int .i64 v }) = nEnt (M.set y.1 (e, v)) := by
   apply Array.ext_getElem?
   intro j
   have g1 := nL_get M 0 j
   have g2 := nL_get (M.set y.1 (e, v)) 0 j
   rw [Array.getElem?_modify]
   simp only [nEnt, List.getElem?_toArray] at g1 g2 ⊢
   rw [g1, g2]
   by_cases hij : y.1 = j
   ·subst hij; simp [hlt]
   ·simp [hij]
  rw [h1]
  simp only [Option.map_some, hm, Option.getD_some, Instr.keyThatStays, Result.andThen_ok, Sem.run_pure, Sem.run_bind]
  simp [Instr.sameBits, hmod, run_setObjN h (M.set y.1 (e, v)) _ M.length rfl (by simp)]
end Go.Proofs.YtmfpbahifhndjaaGreat
/-! Layer 10: which patterns may be. -/
set_option linter.all false
namespace Go.Proofs.YtmfpbahifhndjaaGreat
open Go.RowKit
set_option maxRecDepth 100000 in
set_option maxHeartbeats 4000000 in
theorem mayPat_any (x : Pt) (y : Int) (w : World) (hx : u64 x.vh ∧ u64 x.vl ∧ u64 x.mh ∧ u64 x.ml) : Calls Tryz.prog 68 #[.agg #[.int .u64 x.vh, .int .u64 x.vl, .int .u64 x.mh, .int .u64 x.ml], .int .i64 y] w fun e w' => e = .returned (.bool (patB x y)) ∧ Below w.heap.size w w' := by
 obtain ⟨vh, vl, mh, ml⟩ := x
 simp only at hx ⊢
 obtain ⟨wa, hwa, hsa, hba, hca, -⟩ := box1 w #[.int .u64 vh, .int .u64 vl, .int .u64 mh, .int .u64 ml] 125
 have x0 : wa.cell? ⟨w.heap.size, 0, none⟩ = some (.int .u64 vh) := hca 0
 have x1 : wa.cell? ⟨w.heap.size, 1, none⟩ = some (.int .u64 vl) := hca 1
 have x2 : wa.cell? ⟨w.heap.size, 2, none⟩ = some (.int .u64 mh) := hca 2
 have x3 : wa.cell? ⟨w.heap.size, 3, none⟩ = some (.int .u64 ml) := hca 3
 have hlt : w.heap.size < wa.heap.size := by omega
 have hF : ∀ d os, Hid (Calls Tryz.prog 46 #[.agg #[.int .u64 vh, .int .u64 vl], .int .i64 y] (Go.Sort.grow (redrawn wa d) os) _) := fun d os => hide (fits_all vh vl y _ ⟨hx.1, hx.2.1⟩)
 have hH : ∀ d os, Hid (Calls Tryz.prog 46 #[.agg #[.int .u64 mh, .int .u64 ml], .int .i64 y] (Go.Sort.grow (redrawn wa d) os) _) := fun d os => hide (fits_all mh ml y _ ⟨hx.2.2.1, hx.2.2.2⟩)
 have hA : ∀ d os, Hid (Calls Tryz.prog 90 #[.agg #[.int .u64 vh, .int .u64 vl], .agg #[.int .u64 mh, .int .u64 ml]] (Go.Sort.grow (redrawn wa d) os) _) := fun d os => hide (and_any vh vl mh ml _)
 have hv := hide (show patB ⟨vh, vl, mh, ml⟩ y = (fitN y vh vl && fitN y mh ml && (decide (andI vh mh = vh) && decide (andI vl ml = vl))) from rfl)
 have hg := gcell' (show Below wa.heap.size wa wa from Below.refl _ _) (Nat.le_refl _)
 have hfin := hide (fun w1 (h : Below wa.heap.size wa w1) => hba.trans (h.mono (show w.heap.size ≤ wa.heap.size by omega)))
 replace hsa := hide hsa
 clear hca hba hx
 generalize fitN y vh vl = F at hF hv
 generalize fitN y mh ml = H at hH hv
 generalize andI vh mh = a at hA hv
 generalize andI vl ml = b at hA hv
 cases F with
 | false =>
  rw [Bool.false_and, Bool.false_and] at hv
  go_enter Tryz.func68, Tryz.ntmps68
  go_wp2_with fail
  refine wp_region_quiet_below (by kernel_rfl) (by kernel_rfl) ?_
  repeat (any_goals (first | go_big_quiet_step ((go_at_call 46; with_reducible exact Calls.regrown_of (hF _ _).out)) | quiet_step ((go_at_call 46; with_reducible exact Calls.regrown_of (hF _ _).out))))
  refine wpQuiet_nil ?_
  intro w1 hw1
  replace hw1 := below_of_regrown hw1
  go_wp2
  go_ret
  exact ⟨ret_b hv.out.symm, hfin.out _ hw1⟩
 | true =>
  cases H with
  | false =>
   rw [Bool.true_and, Bool.false_and] at hv
   go_enter Tryz.func68, Tryz.ntmps68
   go_wp2_with fail
   refine wp_region_quiet_below (by kernel_rfl) (by kernel_rfl) ?_
   repeat (any_goals (first | go_big_quiet_step (first | (go_at_call 46; with_reducible exact Calls.regrown_of (hF _ _).out) | (go_at_call 46; with_reducible exact Calls.regrown_of (hH _ _).out)) | quiet_step (first | (go_at_call 46; with_reducible exact Calls.regrown_of (hF _ _).out) | (go_at_call 46; with_reducible exact Calls.regrown_of (hH _ _).out))))
   refine wpQuiet_nil ?_
   intro w1 hw1
   replace hw1 := below_of_regrown hw1
   go_wp2
   go_ret
   exact ⟨ret_b hv.out.symm, hfin.out _ hw1⟩
  | true =>
   rw [Bool.true_and, Bool.true_and] at hv
   by_cases e1 : a = vh
   ·subst e1
    by_cases e2 : b = vl
    ·subst e2
     go_enter Tryz.func68, Tryz.ntmps68
     go_wp2_with fail
     refine wp_region_quiet_below (by kernel_rfl) (by kernel_rfl) ?_
     repeat (any_goals (first | go_big_quiet_step (first | (go_at_call 46; with_reducible exact Calls.regrown_of (hF _ _).out) | (go_at_call 46; with_reducible exact Calls.regrown_of (hH _ _).out) | (go_at_call 90; with_reducible exact Calls.regrown_of (hA _ _).out)) | quiet_step (first | (go_at_call 46; with_reducible exact Calls.regrown_of (hF _ _).out) | (go_at_call 46; with_reducible exact Calls.regrown_of (hH _ _).out) | (go_at_call 90; with_reducible exact Calls.regrown_of (hA _ _).out))))
     refine wpQuiet_nil ?_
     intro w1 hw1
     replace hw1 := below_of_regrown hw1
     go_wp2
     go_ret
     exact ⟨ret_b (by rw [hv.out]; simp), hfin.out _ hw1⟩
    ·have e3 : (b == vl) = false := beq_eq_false_iff_ne.2 e2
     replace e2 := hide e2
     go_enter Tryz.func68, Tryz.ntmps68
     go_wp2_with fail
     refine wp_region_quiet_below (by kernel_rfl) (by kernel_rfl) ?_
     repeat (any_goals (first | go_big_quiet_step (first | (go_at_call 46; with_reducible exact Calls.regrown_of (hF _ _).out) | (go_at_call 46; with_reducible exact Calls.regrown_of (hH _ _).out) | (go_at_call 90; with_reducible exact Calls.regrown_of (hA _ _).out)) | quiet_step (first | (go_at_call 46; with_reducible exact Calls.regrown_of (hF _ _).out) | (go_at_call 46; with_reducible exact Calls.regrown_of (hH _ _).out) | (go_at_call 90; with_reducible exact Calls.regrown_of (hA _ _).out))))
     refine wpQuiet_nil ?_
     intro w1 hw1
     replace hw1 := below_of_regrown hw1
     go_wp2
     go_ret
     exact ⟨ret_b (by rw [hv.out]; simp [e2.out]), hfin.out _ hw1⟩
   ·have e3 : (a == vh) = false := beq_eq_false_iff_ne.2 e1
    replace e1 := hide e1
    go_enter Tryz.func68, Tryz.ntmps68
    go_wp2_with fail
    refine wp_region_quiet_below (by kernel_rfl) (by kernel_rfl) ?_
    repeat (any_goals (first | go_big_quiet_step (first | (go_at_call 46; with_reducible exact Calls.regrown_of (hF _ _).out) | (go_at_call 46; with_reducible exact Calls.regrown_of (hH _ _).out) | (go_at_call 90; with_reducible exact Calls.regrown_of (hA _ _).out)) | quiet_step (first | (go_at_call 46; with_reducible exact Calls.regrown_of (hF _ _).out) | (go_at_call 46; with_reducible exact Calls.regrown_of (hH _ _).out) | (go_at_call 90; with_reducible exact Calls.regrown_of (hA _ _).out))))
    refine wpQuiet_nil ?_
    intro w1 hw1
    replace hw1 := below_of_regrown hw1
    go_wp2
    go_ret
    exact ⟨ret_b (by rw [hv.out]; simp [e1.out]), hfin.out _ hw1⟩
set_option maxRecDepth 100000 in
set_option maxHeartbeats 4000000 in
theorem eqPat_any (A A' : Option Addr) (cap cap' : Nat) (xs : List (Pt)) (ys : List Int) (w : World) (h : Sl 4 rPt w w.heap.size A xs) (h' : Sl 1 rInt w w.heap.size A' ys) :
  Calls Tryz.prog 67 #[.slice A xs.length cap, .slice A' ys.length cap', .func (.func 68) #[] #[]] w fun e w' => e = .returned (.bool (eqF patB xs ys)) ∧ Below w.heap.size w w' := by
 have hl := h.len
 have hl' := h'.len
 have eg : ∀ args w, (callFunc 68 args).run Tryz.prog w = .ok (.enter 68 args) w := enters_of Tryz.func68 (by kernel_rfl) rfl
 go_enter Tryz.func67, Tryz.ntmps67
 by_cases he : xs.length = ys.length
 ·have hez : ((xs.length : Int) != (ys.length : Int)) = false := by rw [he]; exact bne_self_eq_false _
  have hv := hide (show eqF patB xs ys = allN (fun i => atD (fun x => atD (patB x) ys i) xs i) xs.length from by unfold eqF; rw [decide_eq_true he, Bool.true_and])
  replace he := hide he
  go_wp2
  go_loopw [7, 8, 9, 17] (fun _ _ _ i wr => ∃ k : Nat, k ≤ xs.length ∧ i = .int .i64 k ∧ Hid (allN (fun i => atD (fun x => atD (patB x) ys i) xs i) k = true) ∧ Hid (Below w.heap.size w wr)) (fun _ _ _ i _ => xs.length - (intOf i).toNat)
  case atStart => exact ⟨0, Nat.zero_le _, rfl, hide rfl, hide (Below.refl _ _)⟩
  case round =>
   obtain ⟨k, hk, rfl, hc, hbr⟩ := hrel
   by_cases hlt : k < xs.length
   ·have hlt' : k < ys.length := by have := he.out; omega
    have hkz : (k : Int) < (xs.length : Int) := by omega
    have hkz' : (k : Int) < (ys.length : Int) := by omega
    obtain ⟨b, o, ecs, rfl, hb, hn, hcell, rfl, hy⟩ := h.2 k _ (List.getElem?_eq_getElem hlt)
    obtain ⟨b', o', rfl, hb', hc'⟩ := h'.int hlt'
    have hcw := fun j u hu => (hbr.out.cell (p := ⟨b, o + k * 4 + j, none⟩) hb).trans (hcell j u hu)
    have yc := (hbr.out.cell (p := ⟨b', o' + k, none⟩) hb').trans hc'
    have hstep : allN (fun i => atD (fun x => atD (patB x) ys i) xs i) (k + 1) = patB xs[k] ys[k] := by
     rw [allN, hc.out, Bool.true_and, atD_at _ hlt, atD_at _ hlt']
    have hwr := hbr.out.size
    clear h h' hcell hc
    generalize hxk : xs[k] = x at *
    generalize hyk : ys[k] = y at *
    have x0 : wr.cell? ⟨b, o + k * 4, none⟩ = some (.int .u64 x.vh) := by simpa using hcw 0 _ rfl
    have x1 : wr.cell? ⟨b, o + k * 4 + 1, none⟩ = some (.int .u64 x.vl) := hcw 1 _ rfl
    have x2 : wr.cell? ⟨b, o + k * 4 + 2, none⟩ = some (.int .u64 x.mh) := hcw 2 _ rfl
    have x3 : wr.cell? ⟨b, o + k * 4 + 3, none⟩ = some (.int .u64 x.ml) := hcw 3 _ rfl
    obtain ⟨wn, hwn, hsn, hbn, hcn, -⟩ := box1 wr #[.int .u64 x.vh, .int .u64 x.vl, .int .u64 x.mh, .int .u64 x.ml] 125
    have m0 : wn.cell? ⟨wr.heap.size, 0, none⟩ = some (.int .u64 x.vh) := hcn 0
    have m1 : wn.cell? ⟨wr.heap.size, 1, none⟩ = some (.int .u64 x.vl) := hcn 1
    have m2 : wn.cell? ⟨wr.heap.size, 2, none⟩ = some (.int .u64 x.mh) := hcn 2
    have m3 : wn.cell? ⟨wr.heap.size, 3, none⟩ = some (.int .u64 x.ml) := hcn 3
    have ycn := (hbn.cell (p := ⟨b', o' + k, none⟩) (Nat.lt_of_lt_of_le hb' hwr)).trans yc
    have hK := mayPat_any x y wn hy
    have hlo := hide (fun (g : patB x y = false) => show allN (fun i => atD (fun x => atD (patB x) ys i) xs i) xs.length = false from allN_no hlt (by rw [atD_at _ hlt, atD_at _ hlt', hxk, hyk]; exact g))
    have hbw := hide (hbr.out.trans (hbn.mono hwr))
    have hwn2 : wr.heap.size < wn.heap.size := by omega
    replace hsn := hide hsn
    replace hstep := hide hstep
    clear hcn hbn hbr hcw
    generalize patB x y = F at hK hstep hlo
    replace hK := hide hK
    cases F with
    | false =>
     replace hlo := hide (hlo.out rfl)
     go_wp2_with (go_at_fn 68; refine hK.out.mono ?_; rintro e w3 ⟨rfl, hb3⟩)
     go_ret
     exact ⟨ret_b (by rw [hv.out, hlo.out]), hbw.out.trans (hb3.mono (by have := hbw.out.size; omega))⟩
    | true =>
     go_wp2_with (go_at_fn 68; refine hK.out.mono ?_; rintro e w3 ⟨rfl, hb3⟩)
     go_roundw
     case rel => exact ⟨k + 1, by omega, by go_num, hstep, hide (hbw.out.trans (hb3.mono (by have := hbw.out.size; omega)))⟩
     case measure => simp [intOf]; omega
   ·have hke : k = xs.length := by omega
    subst hke
    go_wp2
    go_ret
    exact ⟨ret_b (by rw [hv.out, hc.out]), hbr.out⟩
 ·have hez : ((xs.length : Int) != (ys.length : Int)) = true := by rw [bne_iff_ne]; omega
  have hv := hide (show eqF patB xs ys = false from by unfold eqF; rw [decide_eq_false he, Bool.false_and])
  clear h h'
  go_wp2
  go_ret
  exact ⟨ret_b hv.out.symm, Below.refl _ _⟩
end Go.Proofs.YtmfpbahifhndjaaGreat
/-! Layer 10: a step, for the program: the closures. -/
set_option linter.all false
namespace Go.Proofs.YtmfpbahifhndjaaGreat
open Go.RowKit
theorem enters_s3 : ∀ args w, (callFunc 65 args).run Tryz.prog w = .ok (.enter 65 args) w := enters_of Tryz.func65 (by kernel_rfl) rfl
theorem enters_s4 : ∀ args w, (callFunc 66 args).run Tryz.prog w = .ok (.enter 66 args) w := enters_of Tryz.func66 (by kernel_rfl) rfl
theorem isTo_any (p : Lp) (B : Option Addr) (c x : Nat) (t : Int) (w : World) (hl : p.steps.length ≤ 9223372036854775807) (hc : w.cell? ⟨x, 2, none⟩ = some (.slice B p.steps.length c)) :
  Calls Tryz.prog 62 #[.int .i64 t, .pointer (some ⟨x, 0, none⟩)] w fun e w' => e = .returned (.bool (toB p t)) ∧ w = w' := by
 go_enter Tryz.func62, Tryz.ntmps62
 go_wp2
 all_goals go_ret
 all_goals refine ⟨ret_b ?_, rfl⟩
 all_goals (unfold toB; first | rfl | (rw [Bool.eq_iff_iff]; simp [*]; done) | (rw [Bool.eq_iff_iff]; simp [*]; omega))
theorem isHd_any (p : Lp) (B : Option Addr) (c x : Nat) (t : Int) (w : World) (hl : p.heads.length ≤ 9223372036854775807) (hc : w.cell? ⟨x, 0, none⟩ = some (.slice B p.heads.length c)) :
  Calls Tryz.prog 63 #[.int .i64 t, .pointer (some ⟨x, 0, none⟩)] w fun e w' => e = .returned (.bool (inB p.heads.length t)) ∧ w = w' := by
 go_enter Tryz.func63, Tryz.ntmps63
 go_wp2
 all_goals go_ret
 all_goals refine ⟨ret_b ?_, rfl⟩
 all_goals (unfold inB; first | rfl | (rw [Bool.eq_iff_iff]; simp [*]; done) | (rw [Bool.eq_iff_iff]; simp [*]; omega))
theorem notHd_any (p : Lp) (B : Option Addr) (c x y : Nat) (t : Int) (w : World) (hl : p.heads.length ≤ 9223372036854775807) (hc : w.cell? ⟨x, 0, none⟩ = some (.slice B p.heads.length c))
  (hf : w.cell? ⟨y, 0, none⟩ = some (.func (.func 63) #[] #[.pointer (some ⟨x, 0, none⟩)])) :
  Calls Tryz.prog 65 #[.int .i64 t, .pointer (some ⟨y, 0, none⟩)] w fun e w' => e = .returned (.bool (!inB p.heads.length t)) ∧ w = w' := by
 have hC := hide (isHd_any p B c x t w hl hc)
 go_enter Tryz.func65, Tryz.ntmps65
 go_wp2_with (go_at_call 63; refine hC.out.mono ?_; rintro e w' ⟨rfl, rfl⟩)
 go_ret
 exact ⟨rfl, rfl⟩
/-- The place of the first one that is so, or -1. -/
def idxP (p : Int → Bool) (xs : List Int) : Int := match xs.findIdx? p with
 | some i => (i : Int)
 | none => -1
theorem idxP_at {p : Int → Bool} {xs : List Int} {k : Nat} (hk : k < xs.length) (h : (xs.take k).any p = false) (hp : p xs[k] = true) : idxP p xs = (k : Int) := by
 have : xs.findIdx? p = some k := by
  rw [List.findIdx?_eq_some_iff_getElem]
  refine ⟨hk, hp, fun j hj => ?_⟩
  have := List.any_eq_false.1 h xs[j] (List.mem_take_iff_getElem.2 ⟨j, by omega, rfl⟩)
  exact this
 rw [idxP, this]
theorem idxP_no {p : Int → Bool} {xs : List Int} (h : xs.any p = false) : idxP p xs = -1 := by
 have : xs.findIdx? p = none := by
  rw [List.findIdx?_eq_none_iff]
  intro x hx
  simpa using List.any_eq_false.1 h x hx
 rw [idxP, this]
theorem idxP_nonneg (p : Int → Bool) (xs : List Int) : decide (0 ≤ idxP p xs) = xs.any p := by
 unfold idxP
 cases h : xs.findIdx? p with
 | none =>
  rw [List.findIdx?_eq_none_iff] at h
  have : xs.any p = false := List.any_eq_false.2 fun x hx => by simp [h x hx]
  rw [this]; rfl
 | some i =>
  rw [List.findIdx?_eq_some_iff_getElem] at h
  obtain ⟨hi, hp, -⟩ := h
  rw [any_of_getElem hi hp]
  simp
/-- A function value that answers p of each of xs, in every world in which all below B lies as it lay. -/
def FnB (B : Nat) (fid : Nat) (lb : Array Value) (p : Int → Bool) (xs : List Int) (w : World) : Prop :=
 ∀ (x : Int) (W : World), x ∈ xs → Below B w W → Calls Tryz.prog fid (#[.int .i64 x] ++ lb) W fun e w' => e = .returned (.bool (p x)) ∧ Below W.heap.size W w'
set_option maxHeartbeats 1000000 in
theorem indexFunc_any (fid : Nat) (lb : Array Value) (eg : ∀ args w, (callFunc fid args).run Tryz.prog w = .ok (.enter fid args) w) (p : Int → Bool) (A : Option Addr) (cap : Nat) (xs : List Int) (w : World) (h : Sl 1 rInt w w.heap.size A xs) (hf : FnB w.heap.size fid lb p xs w) :
  Calls Tryz.prog 88 #[.slice A xs.length cap, .func (.func fid) #[] lb] w fun e w' => e = .returned (.int .i64 (idxP p xs)) ∧ Below w.heap.size w w' := by
 have hl := h.len
 replace hf := hide hf
 go_enter Tryz.func88, Tryz.ntmps88
 go_wp2
 go_loopw [5, 8] (fun _ i wr => ∃ k : Nat, k ≤ xs.length ∧ i = .int .i64 k ∧ Hid ((xs.take k).any p = false) ∧ Hid (Below w.heap.size w wr)) (fun _ i _ => xs.length - (intOf i).toNat)
 case atStart => exact ⟨0, Nat.zero_le _, rfl, hide (by simp), hide (Below.refl _ _)⟩
 case round =>
  obtain ⟨k, hk, rfl, hc, hbr⟩ := hrel
  have hcw := bcell' hbr.out
  by_cases hlt : k < xs.length
  ·obtain ⟨b, o, rfl, hb, hcell⟩ := h.int hlt
   have hltz : (k : Int) < (xs.length : Int) := by omega
   clear h
   have hcall := hf.out xs[k] wr (List.getElem_mem _) hbr.out
   cases hp : p xs[k] with
   | true =>
    rw [hp] at hcall
    have hv := hide (idxP_at hlt hc.out hp)
    clear hp
    go_wp2_with (go_at_fn fid; refine hcall.mono ?_; rintro e w' ⟨rfl, hb1⟩)
    go_ret
    exact ⟨ret_int hv.out.symm, hbr.out.trans (hb1.mono hbr.out.size)⟩
   | false =>
    rw [hp] at hcall
    have hv := hide (any_take_succ hlt hc.out hp)
    clear hp
    go_wp2_with (go_at_fn fid; refine hcall.mono ?_; rintro e w' ⟨rfl, hb1⟩)
    go_roundw
    case rel => exact ⟨k + 1, by omega, by go_num, hv, hide (hbr.out.trans (hb1.mono hbr.out.size))⟩
    case measure => simp [intOf]; omega
  ·have hv := hide (idxP_no (any_of_take hk hlt hc.out))
   go_wp2
   go_ret
   exact ⟨ret_int hv.out.symm, hbr.out⟩
set_option maxHeartbeats 1000000 in
theorem containsFunc_any (fid : Nat) (lb : Array Value) (eg : ∀ args w, (callFunc fid args).run Tryz.prog w = .ok (.enter fid args) w) (p : Int → Bool) (A : Option Addr) (cap : Nat) (xs : List Int) (w : World) (h : Sl 1 rInt w w.heap.size A xs) (hf : FnB w.heap.size fid lb p xs w) :
  Calls Tryz.prog 55 #[.slice A xs.length cap, .func (.func fid) #[] lb] w fun e w' => e = .returned (.bool (xs.any p)) ∧ Below w.heap.size w w' := by
 have hv := hide (idxP_nonneg p xs)
 replace hf := hide hf
 go_enter Tryz.func55, Tryz.ntmps55
 go_wp2_with (go_at_call 88; refine (indexFunc_any fid lb eg p A cap xs _ h hf.out).mono ?_; rintro e w' ⟨rfl, hb⟩)
 go_ret
 exact ⟨ret_b hv.out, hb⟩
end Go.Proofs.YtmfpbahifhndjaaGreat

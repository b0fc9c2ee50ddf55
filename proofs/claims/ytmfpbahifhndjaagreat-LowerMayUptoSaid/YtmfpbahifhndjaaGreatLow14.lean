import Derived.Test.YtmfpbahifhndjaaGreatLow03
import Derived.WideKeyRuns
import Derived.WalkKit
import Derived.Carry
import Derived.Test.YtmfpbahifhndjaaGreatLow01
import Derived.StillTailTactics
import Derived.Deep.Quiet
set_option linter.all false
/-! The map of the kinds' forms, that ast.forms makes: its rows as a list. -/
namespace Go.Proofs.YtmfpbahifhndjaaGreat
open Go.RowKit
abbrev Fm := (Bool × Bool × Bool × Bool) × Int
def fmV (f : Fm) : Value := .agg #[.bool f.1.1, .bool f.1.2.1, .bool f.1.2.2.1, .bool f.1.2.2.2, .int .i64 f.2]
theorem run_check_u8 (a : Int) (e : Bool) (w : World) : (Instr.checkKey e 10000 5 (.int .u8 a)).run Tryz.prog w = .ok () w := by
 have hk : ∀ n : Nat, (Instr.checkKey e (n + 1) 5 (.int .u8 a)).run Tryz.prog w = .ok () w := fun n => by simp [Instr.checkKey, run_underlying Tryz.underlying5]
 exact hk 9999
abbrev FF := List (Int × Fm)
def fL (o : Nat) (M : FF) : List MapEntry := (M.zipIdx o).map fun x => ⟨.int .u8 x.1.1, fmV x.1.2, x.2⟩
def fEnt (M : FF) : Array MapEntry := (fL 0 M).toArray
def FmS (w : World) (b : Nat) (M : FF) : Prop := w.heap[b]? = some (.map (fEnt M) M.length)
def putF (w : World) (b : Nat) (M : FF) : World := { w with heap := w.heap.setIfInBounds b (.map (fEnt M) M.length) }
def lookF : FF → Int → Option (Nat × Fm)
 | [], _ => none
 | x :: M, e => if e = x.1 then some (0, x.2) else (lookF M e).map fun y => (y.1 + 1, y.2)
theorem findNowF (e : Int) : ∀ (M : FF) (o i : Nat), Instr.findNow (.int .u8) (.int .u8 e) (fL o M) i = some ((lookF M e).map fun y => (i + y.1, fmV y.2))
 | [], o, i => by simp [fL, Instr.findNow, lookF]
 | x :: M, o, i => by
  have ih := findNowF e M (o + 1) (i + 1)
  have hm : fL o (x :: M) = ⟨.int .u8 x.1, fmV x.2, o⟩ :: fL (o + 1) M := by simp [fL, List.zipIdx_cons]
  rw [hm]
  unfold Instr.findNow
  simp only [Instr.sameNow, if_true]
  by_cases h : e = x.1
  ·simp [lookF, h]
  ·have h' : (e == x.1) = false := by simpa using h
   simp only [h', lookF, if_neg h, ih]
   cases lookF M e with
   | none => simp
   | some y => simp; omega
theorem run_findKeyF (e : Int) (w : World) (M : FF) : (Instr.findKey 5 (.int .u8 e) (fEnt M).toList).run Tryz.prog w = .ok ((lookF M e).map fun y => (y.1, fmV y.2)) w := by
 have := findNowF e M 0 0
 unfold Instr.findKey
 simp only [Sem.run_bind, run_underlying Tryz.underlying5, Result.andThen_ok, fEnt, this]
 simp
theorem run_getObjF {w : World} {b : Nat} {M : FF} (h : FmS w b M) : (getObj b).run Tryz.prog w = .ok (.map (fEnt M) M.length) w := by
 unfold FmS at h
 simp [getObj, Sem.run, h]
theorem run_setObjF {w : World} {b : Nat} {M : FF} (h : FmS w b M) (M' : FF) (es : Array MapEntry) (c : Nat) (he : es = fEnt M') (hc : c = M'.length) : (setObj b (.map es c)).run Tryz.prog w = .ok () (putF w b M') := by
 unfold FmS at h
 subst he hc
 simp [setObj, Sem.run, h, putF]
theorem FmS.lt {w : World} {b : Nat} {M : FF} (h : FmS w b M) : b < w.heap.size := by
 rcases Nat.lt_or_ge b w.heap.size with h1 | h1
 ·exact h1
 ·unfold FmS at h; rw [Array.getElem?_eq_none h1] at h; cases h
theorem fmS_put {w : World} {b : Nat} {M M' : FF} (h : FmS w b M) : FmS (putF w b M') b M' := by
 have := h.lt
 simp [FmS, putF, this]
theorem FmS.alloc {w : World} {b : Nat} {M : FF} (h : FmS w b M) (o : Obj) : FmS (w.alloc o) b M := (Below.heap_alloc w o b h.lt).trans h
theorem FmS.below {w w' : World} {b B : Nat} {M : FF} (h : FmS w b M) (hb : Below B w w') (hB : b < B) : FmS w' b M := (hb.block b hB).trans h
theorem below_putF {B b : Nat} {w w' : World} {M : FF} (h : Below B w w') (hB : B ≤ b) : Below B w (putF w' b M) :=
 ⟨h.os, h.tape, h.output, by simpa [putF] using h.size, fun k hk => by
  rw [← h.block k hk]; simp only [putF]; rw [Array.getElem?_setIfInBounds_ne (by omega)]⟩
theorem run_lookupF {w : World} {b : Nat} {M : FF} (h : FmS w b M) (e : Int) : (Instr.lookup 158 (.map (some b)) (.int .u8 e) true).run Tryz.prog w =
  .ok (.tuple #[fmV (((lookF M e).map fun y => y.2).getD ((false, false, false, false), 0)), .bool (lookF M e).isSome]) w := by
 have hz : (zeroValue 162).run Tryz.prog w = .ok (fmV ((false, false, false, false), 0)) w := by go_simp; rfl
 unfold Instr.lookup
 simp only [Sem.run_bind, run_underlying Tryz.underlying158, Result.andThen_ok, run_getObjF h, Sem.run_pure, run_check_u8, run_findKeyF]
 cases hl : lookF M e with
 | none => simp [hz]
 | some y => simp
theorem run_updateF {w : World} {b : Nat} {M : FF} (h : FmS w b M) {e : Int} (f : Fm) (hl : lookF M e = none) :
  (Instr.mapUpdate 158 (.map (some b)) (.int .u8 e) (fmV f)).run Tryz.prog w = .ok () (putF w b (M ++ [(e, f)])) := by
 have hp : (fEnt M).push ⟨.int .u8 e, fmV f, M.length⟩ = fEnt (M ++ [(e, f)]) := by
  simp [fEnt, fL, List.zipIdx_append]
 unfold Instr.mapUpdate
 simp only [Sem.run_bind, run_underlying Tryz.underlying158, Result.andThen_ok, run_getObjF h, run_check_u8, run_findKeyF, hl, Option.map_none, run_setObjF h (M ++ [(e, f)]) _ (M.length + 1) hp (by simp)]
/-- The rows up to a kind. -/
def formRows (n : Nat) : FF := (List.range n).filterMap fun (i : Nat) => (formOf ((i : Int) + 1)).map fun f => ((i : Int) + 1, f)
theorem look_range (e : Int) : ∀ (l : List Nat), (lookF (l.filterMap fun (i : Nat) => (formOf ((i : Int) + 1)).map fun f => ((i : Int) + 1, f)) e).map (fun y => y.2) = if (∃ i ∈ l, (i : Int) + 1 = e) then formOf e else none
 | [] => by simp [lookF]
 | i :: l => by
  have ih := look_range e l
  simp only [List.filterMap_cons]
  by_cases h : (i : Int) + 1 = e
  ·rw [if_pos ⟨i, List.mem_cons_self, h⟩, h]
   cases hf : formOf e with
   | none =>
    simp only [Option.map_none]
    rw [ih, hf]; simp
   | some f => simp [lookF]
  ·have hx : (∃ j ∈ i :: l, (j : Int) + 1 = e) ↔ ∃ j ∈ l, (j : Int) + 1 = e := by
    constructor
    ·rintro ⟨j, hj, hje⟩
     rcases List.mem_cons.1 hj with rfl | hj
     ·exact absurd hje h
     ·exact ⟨j, hj, hje⟩
    ·rintro ⟨j, hj, hje⟩; exact ⟨j, List.mem_cons_of_mem _ hj, hje⟩
   simp only [hx]
   cases hf : formOf ((i : Int) + 1) with
   | none => simp only [Option.map_none]; exact ih
   | some f =>
    have h' : ¬ e = (i : Int) + 1 := fun g => h g.symm
    simp only [Option.map_some, lookF, if_neg h', Option.map_map]
    rw [← ih]; rfl
theorem lookF_rows (e : Int) : (lookF (formRows 26) e).map (fun y => y.2) = formOf e := by
 unfold formRows
 rw [look_range]
 split
 ·rfl
 ·rename_i h
  have : ¬ (1 ≤ e ∧ e ≤ 26) := fun g => h ⟨(e - 1).toNat, List.mem_range.2 (by omega), by omega⟩
  unfold formOf
  repeat (rw [if_neg (by omega)])
end Go.Proofs.YtmfpbahifhndjaaGreat
/-! Printed by gen_ops.py. Layer 10: the map of operations. -/
namespace Go.Proofs.YtmfpbahifhndjaaGreat
open Go.RowKit
abbrev UU := List (Int × Int)
def uL (o : Nat) (M : UU) : List MapEntry := (M.zipIdx o).map fun x => ⟨.int .u8 x.1.1, .int .u8 x.1.2, x.2⟩
def uEnt (M : UU) : Array MapEntry := (uL 0 M).toArray
def UmS (w : World) (b : Nat) (M : UU) : Prop := w.heap[b]? = some (.map (uEnt M) M.length)
def putU (w : World) (b : Nat) (M : UU) : World := { w with heap := w.heap.setIfInBounds b (.map (uEnt M) M.length) }
def lookU : UU → Int → Option (Nat × Int)
 | [], _ => none
 | x :: M, e => if e = x.1 then some (0, x.2) else (lookU M e).map fun y => (y.1 + 1, y.2)
theorem findNowU (e : Int) : ∀ (M : UU) (o i : Nat), Instr.findNow (.int .u8) (.int .u8 e) (uL o M) i = some ((lookU M e).map fun y => (i + y.1, .int .u8 y.2))
 | [], o, i => by simp [uL, Instr.findNow, lookU]
 | x :: M, o, i => by
  have ih := findNowU e M (o + 1) (i + 1)
  have hm : uL o (x :: M) = ⟨.int .u8 x.1, .int .u8 x.2, o⟩ :: uL (o + 1) M := by simp [uL, List.zipIdx_cons]
  rw [hm]
  unfold Instr.findNow
  simp only [Instr.sameNow, if_true]
  by_cases h : e = x.1
  ·simp [lookU, h]
  ·have h' : (e == x.1) = false := by simpa using h
   simp only [h', lookU, if_neg h, ih]
   cases lookU M e with
   | none => simp
   | some y => simp; omega
theorem run_findKeyU (e : Int) (w : World) (M : UU) : (Instr.findKey 5 (.int .u8 e) (uEnt M).toList).run Tryz.prog w = .ok ((lookU M e).map fun y => (y.1, .int .u8 y.2)) w := by
 have := findNowU e M 0 0
 unfold Instr.findKey
 simp only [Sem.run_bind, run_underlying Tryz.underlying5, Result.andThen_ok, uEnt, this]
 simp
theorem run_getObjU {w : World} {b : Nat} {M : UU} (h : UmS w b M) : (getObj b).run Tryz.prog w = .ok (.map (uEnt M) M.length) w := by
 unfold UmS at h
 simp [getObj, Sem.run, h]
theorem run_setObjU {w : World} {b : Nat} {M : UU} (h : UmS w b M) (M' : UU) (es : Array MapEntry) (c : Nat) (he : es = uEnt M') (hc : c = M'.length) : (setObj b (.map es c)).run Tryz.prog w = .ok () (putU w b M') := by
 unfold UmS at h
 subst he hc
 simp [setObj, Sem.run, h, putU]
theorem UmS.lt {w : World} {b : Nat} {M : UU} (h : UmS w b M) : b < w.heap.size := by
 rcases Nat.lt_or_ge b w.heap.size with h1 | h1
 ·exact h1
 ·unfold UmS at h; rw [Array.getElem?_eq_none h1] at h; cases h
theorem umS_put {w : World} {b : Nat} {M M' : UU} (h : UmS w b M) : UmS (putU w b M') b M' := by
 have := h.lt
 simp [UmS, putU, this]
theorem UmS.below {w w' : World} {b B : Nat} {M : UU} (h : UmS w b M) (hb : Below B w w') (hB : b < B) : UmS w' b M := (hb.block b hB).trans h
theorem below_putU {B b : Nat} {w w' : World} {M : UU} (h : Below B w w') (hB : B ≤ b) : Below B w (putU w' b M) :=
 ⟨h.os, h.tape, h.output, by simpa [putU] using h.size, fun k hk => by
  rw [← h.block k hk]; simp only [putU]; rw [Array.getElem?_setIfInBounds_ne (by omega)]⟩
theorem run_lookupU {w : World} {b : Nat} {M : UU} (h : UmS w b M) (e : Int) : (Instr.lookup 141 (.map (some b)) (.int .u8 e) false).run Tryz.prog w = .ok (.int .u8 (((lookU M e).map fun y => y.2).getD 0)) w := by
 have hz : (zeroValue 5).run Tryz.prog w = .ok (.int .u8 0) w := by go_simp
 unfold Instr.lookup
 simp only [Sem.run_bind, run_underlying Tryz.underlying141, Result.andThen_ok, run_getObjU h, Sem.run_pure, run_check_u8, run_findKeyU]
 cases hl : lookU M e with
 | none => simp [hz]
 | some y => simp
theorem run_updateU {w : World} {b : Nat} {M : UU} (h : UmS w b M) {e : Int} (f : Int) (hl : lookU M e = none) :
  (Instr.mapUpdate 141 (.map (some b)) (.int .u8 e) (.int .u8 f)).run Tryz.prog w = .ok () (putU w b (M ++ [(e, f)])) := by
 have hp : (uEnt M).push ⟨.int .u8 e, .int .u8 f, M.length⟩ = uEnt (M ++ [(e, f)]) := by
  simp [uEnt, uL, List.zipIdx_append]
 unfold Instr.mapUpdate
 simp only [Sem.run_bind, run_underlying Tryz.underlying141, Result.andThen_ok, run_getObjU h, run_check_u8, run_findKeyU, hl, Option.map_none, run_setObjU h (M ++ [(e, f)]) _ (M.length + 1) hp (by simp)]
theorem rowU_in {w : World} {b : Nat} {M : UU} (e f : Int) (h : UmS w b M) (hl : lookU M e = none) :
  ∃ w', (Instr.mapUpdate 141 (.map (some b)) (.int .u8 e) (.int .u8 f)).run Tryz.prog w = .ok () w' ∧ UmS w' b (M ++ [(e, f)]) ∧ (∀ B, B ≤ b → Below B w w') :=
 ⟨_, run_updateU h f hl, umS_put h, fun _ hB => below_putU (Below.refl _ _) hB⟩
def opsU : UU := [(7, 7), (8, 8), (9, 7), (10, 9), (11, 10), (12, 11), (13, 12), (14, 13), (15, 14), (16, 15), (17, 16), (18, 17), (19, 18), (20, 18), (21, 19), (24, 19), (22, 20), (23, 20), (25, 15), (26, 17)]
/-- The operation of a kind of expression; 0: there is none. -/
def opU (e : Int) : Int := ((lookU opsU e).map fun y => y.2).getD 0
set_option maxRecDepth 100000 in
set_option maxHeartbeats 4000000 in
theorem ops_any (w : World) : Calls Tryz.prog 83 #[] w fun e w' => e = .returned (.map (some w.heap.size)) ∧ UmS w' w.heap.size opsU ∧ Below w.heap.size w w' := by
 have hmm := @run_makeMap Tryz.prog
 have f0 : UmS (w.alloc (.map #[] 0)) w.heap.size [] := by
  have : (w.alloc (.map #[] 0)).heap[w.heap.size]? = some (.map #[] 0) := heap_alloc_new w _
  exact this
 obtain ⟨w0, hw0⟩ : ∃ w0, w.alloc (.map #[] 0) = w0 := ⟨_, rfl⟩
 have b0 : Below w.heap.size w w0 := by rw [← hw0]; exact (Below.refl _ _).alloc (Nat.le_refl _) _
 rw [hw0] at f0
 obtain ⟨w1, r1, f1, g1⟩ := rowU_in 7 7 f0 (by decide)
 have b1 := b0.trans (g1 _ (Nat.le_refl _))
 obtain ⟨w2, r2, f2, g2⟩ := rowU_in 8 8 f1 (by decide)
 have b2 := b1.trans (g2 _ (Nat.le_refl _))
 obtain ⟨w3, r3, f3, g3⟩ := rowU_in 9 7 f2 (by decide)
 have b3 := b2.trans (g3 _ (Nat.le_refl _))
 obtain ⟨w4, r4, f4, g4⟩ := rowU_in 10 9 f3 (by decide)
 have b4 := b3.trans (g4 _ (Nat.le_refl _))
 obtain ⟨w5, r5, f5, g5⟩ := rowU_in 11 10 f4 (by decide)
 have b5 := b4.trans (g5 _ (Nat.le_refl _))
 obtain ⟨w6, r6, f6, g6⟩ := rowU_in 12 11 f5 (by decide)
 have b6 := b5.trans (g6 _ (Nat.le_refl _))
 obtain ⟨w7, r7, f7, g7⟩ := rowU_in 13 12 f6 (by decide)
 have b7 := b6.trans (g7 _ (Nat.le_refl _))
 obtain ⟨w8, r8, f8, g8⟩ := rowU_in 14 13 f7 (by decide)
 have b8 := b7.trans (g8 _ (Nat.le_refl _))
 obtain ⟨w9, r9, f9, g9⟩ := rowU_in 15 14 f8 (by decide)
 have b9 := b8.trans (g9 _ (Nat.le_refl _))
 obtain ⟨w10, r10, f10, g10⟩ := rowU_in 16 15 f9 (by decide)
 have b10 := b9.trans (g10 _ (Nat.le_refl _))
 obtain ⟨w11, r11, f11, g11⟩ := rowU_in 17 16 f10 (by decide)
 have b11 := b10.trans (g11 _ (Nat.le_refl _))
 obtain ⟨w12, r12, f12, g12⟩ := rowU_in 18 17 f11 (by decide)
 have b12 := b11.trans (g12 _ (Nat.le_refl _))
 obtain ⟨w13, r13, f13, g13⟩ := rowU_in 19 18 f12 (by decide)
 have b13 := b12.trans (g13 _ (Nat.le_refl _))
 obtain ⟨w14, r14, f14, g14⟩ := rowU_in 20 18 f13 (by decide)
 have b14 := b13.trans (g14 _ (Nat.le_refl _))
 obtain ⟨w15, r15, f15, g15⟩ := rowU_in 21 19 f14 (by decide)
 have b15 := b14.trans (g15 _ (Nat.le_refl _))
 obtain ⟨w16, r16, f16, g16⟩ := rowU_in 24 19 f15 (by decide)
 have b16 := b15.trans (g16 _ (Nat.le_refl _))
 obtain ⟨w17, r17, f17, g17⟩ := rowU_in 22 20 f16 (by decide)
 have b17 := b16.trans (g17 _ (Nat.le_refl _))
 obtain ⟨w18, r18, f18, g18⟩ := rowU_in 23 20 f17 (by decide)
 have b18 := b17.trans (g18 _ (Nat.le_refl _))
 obtain ⟨w19, r19, f19, g19⟩ := rowU_in 25 15 f18 (by decide)
 have b19 := b18.trans (g19 _ (Nat.le_refl _))
 obtain ⟨w20, r20, f20, g20⟩ := rowU_in 26 17 f19 (by decide)
 have b20 := b19.trans (g20 _ (Nat.le_refl _))
 have hfin := hide f20
 have hbel := hide b20
 clear f0 b0 f1 b1 f2 b2 f3 b3 f4 b4 f5 b5 f6 b6 f7 b7 f8 b8 f9 b9 f10 b10 f11 b11 f12 b12 f13 b13 f14 b14 f15 b15 f16 b16 f17 b17 f18 b18 f19 b19 f20 b20 g1 g2 g3 g4 g5 g6 g7 g8 g9 g10 g11 g12 g13 g14 g15 g16 g17 g18 g19 g20
 go_enter Tryz.func83, Tryz.ntmps83
 go_wp2
 go_ret
 exact ⟨rfl, hfin.out, hbel.out⟩
end Go.Proofs.YtmfpbahifhndjaaGreat
/-! Plain: types of expressions, and what is wrong with an item. -/
namespace Go.Proofs.YtmfpbahifhndjaaGreat
structure Ty where
 w : Int
 truth : Bool
 free : Bool
abbrev Rs (α : Type) := Except Int α
def bitsR (t : Ty) : Rs Ty := if t.truth then .error 9 else if t.free then .error 10 else .ok t
mutual
def fitsE (w : Int) : Ex → Bool
 | .mk op lit _ _ _ _ args => if op = 1 then fitsB w lit else fitsL w args
def fitsL (w : Int) : List Ex → Bool
 | [] => true
 | x :: l => fitsE w x && fitsL w l
end
def joinR (a b : Ex) (s t : Ty) : Rs Ty :=
 if s.truth || t.truth then .error 9 else if s.free && t.free then .error 10
 else if s.free then (if fitsE t.w a then .ok t else .error 5)
 else if t.free then (if fitsE s.w b then .ok s else .error 5)
 else if s.w = t.w then .ok s else .error 10
def fieldR (l : List Fd) (i : Int) : Rs Ty := if i < 0 then .error 7 else .ok ⟨(l[i.toNat]?).elim 0 Prod.snd, false, false⟩
def leafR (p : Pg) (act op : Int) (lit : Lt) (head name : ByteArray) : Rs Ty :=
 if op = 1 then .ok ⟨lit.1, false, decide (lit.1 = 0)⟩
 else if op = 2 then if headerI p head < 0 then .error 7 else fieldR ((p.headers[(headerI p head).toNat]?).elim [] Hd.fields) (fieldI p (headerI p head) name)
 else if op = 3 then fieldR p.metas (metaI p name)
 else if op = 4 then if paramI p act name < 0 then .error 7 else fieldR ((p.actions[act.toNat]?).elim [] Ac.params) (paramI p act name)
 else if op = 6 then if headerI p head < 0 then .error 7 else .ok ⟨0, true, false⟩
 else .ok ⟨9, false, false⟩
def oneR (op hi lo : Int) (t : Ty) : Rs Ty :=
 if op = 9 then if t.truth then .ok t else .error 9
 else if op = 10 then if t.truth then .error 9 else if t.free then .error 10 else if hi < t.w then .ok ⟨hi - lo + 1, false, false⟩ else .error 5
 else if t.truth then .error 9 else .ok t
def pairR (op : Int) (a b : Ex) (s t : Ty) : Rs Ty :=
 if op = 11 then (if s.truth then .error 9 else if s.free then .error 10 else if t.truth then .error 9 else if t.free then .error 10 else if s.w + t.w ≤ 128 then .ok ⟨s.w + t.w, false, false⟩ else .error 5)
 else if 25 ≤ op then (if s.truth && t.truth then .ok s else .error 9)
 else match joinR a b s t with
  | .error n => .error n
  | .ok j => if 19 ≤ op then .ok ⟨0, true, false⟩ else .ok j
def ofR (p : Pg) (act : Int) : Ex → Rs Ty
 | .mk op lit head name _ _ [] => leafR p act op lit head name
 | .mk op _ _ _ hi lo [a] => match ofR p act a with
  | .error n => .error n
  | .ok s => oneR op hi lo s
 | .mk op _ _ _ _ _ (a :: b :: _) => match ofR p act a with
  | .error n => .error n
  | .ok s => if op = 14 ∨ op = 15 then bitsR s else match ofR p act b with
   | .error n => .error n
   | .ok t => pairR op a b s t
/-- A type that is bits has a width that may be. -/
def okTy (t : Ty) : Prop := ¬ (t.truth = true ∧ t.free = true) ∧ (t.truth = false → t.free = false → 1 ≤ t.w ∧ t.w ≤ 128)
end Go.Proofs.YtmfpbahifhndjaaGreat
/-! A region that draws its order: a head that only reads or calls, in whatever world has grown, and a tail in one forced order, which may write, or panic. -/
namespace Go.Proofs.YtmfpbahifhndjaaGreat
open Go Go.RowKit
section
variable {P : Program} {ops : Array Oper} {md : Region.Mode} {C : World → Prop}
/-- Whatever order the head takes. -/
def headQ (P : Program) (md : Region.Mode) (ops : Array Oper) (C : World → Prop) (n : Nat) (L : Array Bool → Act → Prop) : Nat → Array Bool → Act → Prop
 | 0, listed, a => L listed a
 | f + 1, listed, a => Region.ready md ops listed ≠ [] ∧ ∀ i ∈ Region.ready md ops listed, i < n ∧ qOp P ops C i (headQ P md ops C n L f (listed.setIfInBounds i true)) a
theorem wpAny_of_headQ {n g : Nat} {L : Array Bool → Act → Prop} {Q : Exit → Act → World → Prop} (hL : ∀ listed a w, C w → L listed a → wpAny P md ops Q g listed a w) :
  ∀ (f : Nat) (listed : Array Bool) (a : Act) (w : World), C w → headQ P md ops C n L f listed a → wpAny P md ops Q (f + g) listed a w
 | 0, listed, a, w, hw, h => by rw [Nat.zero_add]; exact hL _ _ _ hw h
 | f + 1, listed, a, w, hw, h => by
  rw [Nat.add_right_comm]
  exact ⟨fun h0 => absurd h0 h.1, fun i hi => wpOp_of_qOp hw (fun a' w' hw' h' => wpAny_of_headQ hL f _ a' w' hw' h') (h.2 i hi).2⟩
theorem headQ_first {n i : Nat} {oi : Oper} {v : Value} {L : Array Bool → Act → Prop} (hi : ops[i]? = some oi) (hsel : ∀ (j : Nat) (o : Oper) cs b, ops[j]? = some o → o.op ≠ .select cs b)
  (hs : Region.sinkB md ops n = true) (hc : Region.chainB md ops n = true) (hn : n < ops.size) (hin : i < n) (hdone : ∀ listed a, L listed a → ∀ j ∈ Region.ready md ops listed, n ≤ j) :
  ∀ (f : Nat) (listed : Array Bool) (a : Act), HeadInv md ops n listed →
   (∀ j oj, ops[j]? = some oj → j ≠ i → listed.getD j true = false → (∀ e ∈ oj.after, Region.binds md e = true → e.on ≠ i) → oi.apart ops oj = true) →
   i ∈ Region.ready md ops listed → YieldsIn P ops C oi v a → headQ P md ops C n L f (listed.setIfInBounds i true) (a.put oi.dst v) → headQ P md ops C n L (f + 1) listed a := by
 intro f
 induction f with
 | zero =>
  intro listed a inv _ hr hy H
  refine ⟨fun h => (by rw [h] at hr; cases hr), fun j hj => ?_⟩
  have hjn : j < n := Nat.lt_of_not_le fun h => tail_waits hs hc hn inv _ i rfl hin (mem_ready.1 hr).1 j h hj
  by_cases e : j = i
  ·subst e; exact ⟨hjn, hy.qOp hi H⟩
  ·exact absurd (hdone _ _ H j (ready_mono hj e)) (by omega)
 | succ f ih =>
  intro listed a inv hfree hr hy H
  have hun := (mem_ready.1 hr).1
  refine ⟨fun h => (by rw [h] at hr; cases hr), fun j hj => ?_⟩
  have hjn : j < n := Nat.lt_of_not_le fun h => tail_waits hs hc hn inv _ i rfl hin hun j h hj
  by_cases e : j = i
  ·subst e; exact ⟨hjn, hy.qOp hi H⟩
  ·refine ⟨hjn, ?_⟩
   obtain ⟨hjun, oj, hoj, hall⟩ := mem_ready.1 hj
   have hnot : ∀ x ∈ oj.after, Region.binds md x = true → x.on ≠ i := fun x hx hb he => by
    have h1 := hall x hx hb
    rw [he, getD_both hun] at h1
    cases h1
   refine qOp_mono (fun a' h3 => ih _ a' (inv.set hj hjn) (fun k ok hk hki hu hno => hfree k ok hk hki ?_ hno) (ready_mono hr (Ne.symm e)) h3.1 ?_)
    (qOp_put hoj (hfree j oj hoj e hjun hnot) (fun cs b => hsel i oi cs b hi) (fun cs b => hsel j oj cs b hoj) hy (H.2 j (ready_mono hj e)).2)
   ·by_cases ejk : j = k
    ·subst ejk; exact hjun
    ·rw [getD_set_ne true ejk] at hu; exact hu
   ·rw [Array.setIfInBounds_comm _ _ e]
    exact h3.2
theorem headQ_lex {n g : Nat} {T : Act → Prop} (hsel : Region.noSelect ops = true) (hs : Region.sinkB md ops n = true) (hc : Region.chainB md ops n = true) (hn : n < ops.size) :
  ∀ (l : List Oper) (k : Nat) (listed : Array Bool) (a : Act), (∀ j, j < l.length → l[j]? = ops[k + j]?) → k + l.length = n → HeadInv md ops n listed → Region.lexHead md ops g l.length k listed = true → wpQuiet P ops C T l a →
   headQ P md ops C n (fun x y => Region.seqB md ops g n x = true ∧ T y) l.length listed a
 | [], k, listed, a, _, hk, _, hB, h => by
  obtain rfl : k = n := by simpa using hk
  exact ⟨by simpa [Region.lexHead] using hB, h⟩
 | o :: l, k, listed, a, hl, hk, inv, hB, h => by
  have h0 : ops[k]? = some o := by simpa using (hl 0 (by simp)).symm
  simp only [List.length_cons, Region.lexHead, Bool.and_eq_true] at hB
  rw [List.length_cons] at hk
  have hr : k ∈ Region.ready md ops listed := by simpa using hB.1.1
  obtain ⟨v, hy, hK⟩ := yieldsIn_of_qOp h0 (show qOp P ops C k (wpQuiet P ops C T l) a from by unfold qOp; simp only [h0]; exact h)
  exact headQ_first h0 (Region.noSelect_spec hsel) hs hc hn (by omega) (fun _ _ hL => seqB_ready hL.1) l.length listed a inv (Region.free_spec h0 hB.1.2) hr hy
   (headQ_lex hsel hs hc hn l (k + 1) _ _ (fun j hj => by have := hl (j + 1) (by simpa using hj); simpa [Nat.add_assoc, Nat.add_comm 1 j] using this) (by omega) (inv.set hr (by omega)) hB.2 hK)
end
/-- The first n operations read, or call what lays memory; the others follow in one order. -/
theorem wp_region_quiet_tail {P : Program} {id : Nat} {Q : Exit → Act → World → Prop} {a : Act} {w : World} {l : List Oper} (n : Nat) (hm : P.follows .mixedOrders = true) (hB : Region.lexTailB .any l.toArray n = true)
  (h : wpQuiet P l.toArray (fun w' => ∃ p : Regrown, w' = Go.Sort.grow (redrawn w p.d) p.os) (fun a' => ∀ w', Below w.heap.size w w' → wpList P l.toArray Q (l.drop n) a' w') (l.take n) a) : (Code.region id l.toArray true).wp P Q a w := by
 simp only [Region.lexTailB, Bool.and_eq_true, decide_eq_true_eq] at hB
 obtain ⟨⟨⟨⟨hsel, hn⟩, hs⟩, hc⟩, hlex⟩ := hB
 have htl : (l.take n).length = n := by simp at hn ⊢; omega
 have hdl : (l.drop n).length = l.toArray.size - n := by simp
 have inv0 : HeadInv .any l.toArray n (Array.replicate l.toArray.size false) :=
  ⟨by simp, fun j oj _ hl => (by rw [getD_replicate_false] at hl; cases hl), fun t _ ht => getD_in (by simpa using ht) (getD_replicate_false _ _)⟩
 refine wp_region_any hm ?_
 have H := headQ_lex (md := .any) (g := l.toArray.size - n) hsel hs hc hn (l.take n) 0 _ a (fun j hj => by rw [htl] at hj; simp [hj]) (by simpa using htl) inv0 (by rw [htl]; exact hlex) h
 have := wpAny_of_headQ (Q := Q) (g := l.toArray.size - n) (fun listed a' w' hw hL => by
  have := wpAny_of_seq (md := .any) (Q' := Q) (l.drop n) n listed a' w' (fun j => by simp [List.getElem?_drop]) (by rw [hdl]; exact hL.1) (hL.2 w' (below_of_regrown hw))
  rwa [hdl] at this) _ _ _ { w with drawn := w.drawn + 1 } ⟨⟨w.drawn + 1, #[]⟩, by rw [Go.Sort.grow_empty]; rfl⟩ H
 rwa [htl, show n + (l.toArray.size - n) = l.toArray.size by omega] at this
end Go.Proofs.YtmfpbahifhndjaaGreat
/-! Layer 8's small ones: ask, bits. -/
namespace Go.Proofs.YtmfpbahifhndjaaGreat
open Go.RowKit
attribute [local go_sem] run_panic_iface
def tyC (t : Ty) : Array Value := #[.int .i64 t.w, .bool t.truth, .bool t.free]
/-- A panic with an error's number. -/
abbrev noE (n : Int) : Ending := .panicked [{ v := .iface 66 (.int .i64 n), recovered := false }]
def endR (r : Rs Ty) : Ending := match r with
 | .ok t => .returned (.agg (tyC t))
 | .error n => noE n
def endU (r : Rs Unit) : Ending := match r with
 | .ok _ => .returned (.tuple #[])
 | .error n => noE n
set_option maxHeartbeats 1000000 in
theorem ask_yes (n : Int) (w : World) : Calls Tryz.prog 78 #[.bool true, .int .i64 n] w fun e w' => e = .returned (.tuple #[]) ∧ w = w' := by
 go_enter Tryz.func78, Tryz.ntmps78
 go_wp2
 first | (go_end0; exact ⟨rfl, rfl⟩) | skip
set_option maxHeartbeats 1000000 in
theorem ask_no (n : Int) (w : World) : Calls Tryz.prog 78 #[.bool false, .int .i64 n] w fun e w' => e = noE n ∧ w = w' := by
 go_enter Tryz.func78, Tryz.ntmps78
 go_wp2
 exact ⟨rfl, rfl, rfl⟩
set_option maxHeartbeats 2000000 in
theorem tbits_any (t : Ty) (w : World) : Calls Tryz.prog 107 #[.agg (tyC t)] w fun e w' => e = endR (bitsR t) ∧ Below w.heap.size w w' := by
 show Calls _ _ #[.agg #[.int .i64 t.w, .bool t.truth, .bool t.free]] _ _
 obtain ⟨wa, hwa, hsa, hba, hca, -⟩ := box1 w #[.int .i64 t.w, .bool t.truth, .bool t.free] 107
 obtain ⟨wb, hwb, hsb, hbb, hcb, hfb⟩ := box1 wa #[.int .i64 0, .bool false, .bool false] 107
 have hw := hide (hba.trans (hbb.mono (by omega)))
 have q : ∀ i, wb.cell? ⟨w.heap.size, i, none⟩ = wa.cell? ⟨w.heap.size, i, none⟩ := fun i => hbb.cell (p := ⟨w.heap.size, i, none⟩) (by show w.heap.size < _; omega)
 obtain ⟨y0, y1, y2⟩ := row3 (w := wb) fun i => (q i).trans (hca i)
 rw [hsa] at hcb hfb
 obtain ⟨z0, z1, z2⟩ := row3 hcb
 have hl1 : w.heap.size < wb.heap.size := by omega
 have hl2 : w.heap.size + 1 < wb.heap.size := by omega
 have hv := hide (show bitsR t = if t.truth then .error 9 else if t.free then .error 10 else .ok t from rfl)
 obtain ⟨n, tr, fr⟩ := t
 clear q hca hcb hba hbb
 replace hsb := hide hsb
 simp only at *
 go_enter Tryz.func107, Tryz.ntmps107
 cases tr with
 | true =>
  go_wp2_with (go_at_call 78; refine (ask_no _ _).mono ?_; rintro e w' ⟨rfl, rfl⟩)
  exact ⟨rfl, by rw [hv.out]; rfl, hw.out⟩
 | false =>
  cases fr with
  | true =>
   go_wp2_with (go_at_call 78; first | (with_reducible refine (ask_yes _ _).mono ?_; rintro e w' ⟨rfl, rfl⟩) | (with_reducible refine (ask_no _ _).mono ?_; rintro e w' ⟨rfl, rfl⟩))
   exact ⟨rfl, by rw [hv.out]; rfl, hw.out⟩
  | false =>
   go_wp2_with (go_at_call 78; refine (ask_yes _ _).mono ?_; rintro e w' ⟨rfl, rfl⟩)
   refine bodyPost_ret (v := .agg #[.int .i64 n, .bool false, .bool false]) (by simp [results, Tryz.results107, go_sem, z0, z1, z2]) rfl ⟨by rw [hv.out]; rfl, ?_⟩
   exact ((hw.out.setCell (by show _ ≤ _ + 1; omega) _).setCell (by show _ ≤ _ + 1; omega) _).setCell (by show _ ≤ _ + 1; omega) _
theorem tbits_t (n : Int) (fr : Bool) (w : World) : Calls Tryz.prog 107 #[.agg #[.int .i64 n, .bool true, .bool fr]] w fun e w' => e = noE 9 ∧ Below w.heap.size w w' := tbits_any ⟨n, true, fr⟩ w
theorem tbits_f (n : Int) (w : World) : Calls Tryz.prog 107 #[.agg #[.int .i64 n, .bool false, .bool true]] w fun e w' => e = noE 10 ∧ Below w.heap.size w w' := tbits_any ⟨n, false, true⟩ w
theorem tbits_k (n : Int) (w : World) : Calls Tryz.prog 107 #[.agg #[.int .i64 n, .bool false, .bool false]] w fun e w' => e = .returned (.agg #[.int .i64 n, .bool false, .bool false]) ∧ Below w.heap.size w w' := tbits_any ⟨n, false, false⟩ w
end Go.Proofs.YtmfpbahifhndjaaGreat

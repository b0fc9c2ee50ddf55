import Derived.Test.YtbbdhknagofghaaGreatWhl02
import Derived.Lib.SliceRun
import Derived.Lib.Walk
import Derived.Shelf.Abstract
set_option linter.all false
/-! Printed by gen_ast.py: slices.IndexFunc and ContainsFunc, over each element type. -/
namespace Go.Proofs.YtbbdhknagofghaaGreat
open Go.RowKit
def idxA {α : Type} (p : α → Bool) (xs : List α) : Int := match xs.findIdx? p with
 | some i => (i : Int)
 | none => -1
theorem idxA_at {α : Type} {p : α → Bool} {xs : List α} {k : Nat} (hk : k < xs.length) (h : (xs.take k).any p = false) (hp : p xs[k] = true) : idxA p xs = (k : Int) := by
 have : xs.findIdx? p = some k := by
  rw [List.findIdx?_eq_some_iff_getElem]
  refine ⟨hk, hp, fun j hj => ?_⟩
  have := List.any_eq_false.1 h xs[j] (List.mem_take_iff_getElem.2 ⟨j, by omega, rfl⟩)
  exact this
 rw [idxA, this]
theorem idxA_no {α : Type} {p : α → Bool} {xs : List α} (h : xs.any p = false) : idxA p xs = -1 := by
 have : xs.findIdx? p = none := by
  rw [List.findIdx?_eq_none_iff]
  intro x hx
  simpa using List.any_eq_false.1 h x hx
 rw [idxA, this]
theorem idxA_nonneg {α : Type} (p : α → Bool) (xs : List α) : decide (0 ≤ idxA p xs) = xs.any p := by
 unfold idxA
 cases h : xs.findIdx? p with
 | none =>
  rw [List.findIdx?_eq_none_iff] at h
  have : xs.any p = false := List.any_eq_false.2 fun x hx => by simp [h x hx]
  rw [this]; rfl
 | some i =>
  rw [List.findIdx?_eq_some_iff_getElem] at h
  obtain ⟨hi, hp, -⟩ := h
  rw [any_of_getElem hi hp]
  simp
theorem idxA_name {α : Type} (f : α → ByteArray) (s : ByteArray) (xs : List α) : idxA (fun x => decide (f x = s)) xs = findI (xs.map f) s := by
 induction xs with
 | nil => rfl
 | cons x l ih =>
  unfold idxA findI at *
  simp only [List.findIdx?_cons, List.map_cons, List.mem_cons]
  by_cases e : f x = s
  ·simp [e, idx]
  ·have e' : ¬ s = f x := fun h => e h.symm
   simp only [e, e', decide_false, false_or, idx, if_false] at ih ⊢
   cases hf : l.findIdx? (fun x => decide (f x = s)) with
   | none =>
    simp only [hf] at ih
    by_cases hm : s ∈ List.map f l
    ·rw [if_pos hm] at ih; exact absurd ih (by omega)
    ·rw [if_neg hm]; simp
   | some i =>
    simp only [hf] at ih
    by_cases hm : s ∈ List.map f l
    ·rw [if_pos hm] at ih ⊢; simp; omega
    ·rw [if_neg hm] at ih; exact absurd ih (by omega)
def aggV (cs : List Value) : Value := .agg cs.toArray
def oneV (cs : List Value) : Value := cs.headD (.bool false)
/-- A function value that answers p of each of xs, in every world in which all that lies in w lies as it lay. -/
def FnR {α : Type} (vl : List Value → Value) (k B : Nat) (R : CR α) (fid : Nat) (lb : Array Value) (p : α → Bool) (xs : List α) (w : World) : Prop :=
 ∀ (i : Nat) (x : α) (cs : List Value) (W : World), xs[i]? = some x → Below w.heap.size w W → R W B cs x → cs.length = k → Calls Tryz.prog fid (#[vl cs] ++ lb) W fun e w' => e = .returned (.bool (p x)) ∧ Below W.heap.size W w'

set_option maxHeartbeats 1000000 in
theorem indexFunc_Header {α : Type} {R : CR α} (sR : Sta R) {B : Nat} (fid : Nat) (lb : Array Value) (eg : ∀ args w, (callFunc fid args).run Tryz.prog w = .ok (.enter fid args) w) (p : α → Bool) (A : Option Addr) (cap : Nat) (xs : List α) (w : World) (hB : B ≤ w.heap.size) (h : Sl 2 R w B A xs) (hf : FnR aggV 2 B R fid lb p xs w) :
  Calls Tryz.prog 189 #[.slice A xs.length cap, .func (.func fid) #[] lb] w fun e w' => e = .returned (.int .i64 (idxA p xs)) ∧ Below w.heap.size w w' := by
 have hl := h.len
 replace hf := hide hf
 go_enter Tryz.func189, Tryz.ntmps189
 go_wp2
 go_loopw [5, 8] (fun _ i wr => ∃ k : Nat, k ≤ xs.length ∧ i = .int .i64 k ∧ Hid ((xs.take k).any p = false) ∧ Hid (Below w.heap.size w wr)) (fun _ i _ => xs.length - (intOf i).toNat)
 case atStart => exact ⟨0, Nat.zero_le _, rfl, hide (by simp), hide (Below.refl _ _)⟩
 case round =>
  obtain ⟨k, hk, rfl, hc, hbr⟩ := hrel
  have hcw := bcell' hbr.out
  by_cases hlt : k < xs.length
  ·obtain ⟨b, o, ecs, rfl, hb0, hel, hcell, hr⟩ := h.2 k _ (List.getElem?_eq_getElem hlt)
   have hb : b < w.heap.size := by omega
   match ecs, hel with
   | [a0, a1], _ =>
    have x0 : w.cell? ⟨b, o + k * 2, none⟩ = some a0 := by simpa using hcell 0 a0 rfl
    have x1 : w.cell? ⟨b, o + k * 2 + 1, none⟩ = some a1 := by simpa using hcell 1 a1 rfl
    have hltz : (k : Int) < (xs.length : Int) := by omega
    have hcall : Calls Tryz.prog fid (#[.agg #[a0, a1]] ++ lb) wr _ := hf.out k xs[k] [a0, a1] wr (List.getElem?_eq_getElem hlt) hbr.out (sR.keep hr fun q hq => hbr.out.cell (Nat.lt_of_lt_of_le hq hB)) rfl
    clear h hcell hr
    cases hp : p xs[k] with
    | true =>
     rw [hp] at hcall
     have hv := hide (idxA_at hlt hc.out hp)
     clear hp
     go_wp2_with (go_at_fn fid; refine hcall.mono ?_; rintro e w' ⟨rfl, hb1⟩)
     go_ret
     exact ⟨ret_int hv.out.symm, hbr.out.trans (hb1.mono hbr.out.size)⟩
    | false =>
     rw [hp] at hcall
     have hv := hide (any_take_succ hlt hc.out hp)
     clear hp
     go_wp2_with (go_at_fn fid; refine hcall.mono ?_; rintro e w' ⟨rfl, hb1⟩)
     go_roundw
     case rel => exact ⟨k + 1, by omega, by go_num, hv, hide (hbr.out.trans (hb1.mono hbr.out.size))⟩
     case measure => simp [intOf]; omega
  ·have hv := hide (idxA_no (any_of_take hk hlt hc.out))
   go_wp2
   go_ret
   exact ⟨ret_int hv.out.symm, hbr.out⟩
set_option maxHeartbeats 1000000 in
theorem indexFunc_Field {α : Type} {R : CR α} (sR : Sta R) {B : Nat} (fid : Nat) (lb : Array Value) (eg : ∀ args w, (callFunc fid args).run Tryz.prog w = .ok (.enter fid args) w) (p : α → Bool) (A : Option Addr) (cap : Nat) (xs : List α) (w : World) (hB : B ≤ w.heap.size) (h : Sl 2 R w B A xs) (hf : FnR aggV 2 B R fid lb p xs w) :
  Calls Tryz.prog 188 #[.slice A xs.length cap, .func (.func fid) #[] lb] w fun e w' => e = .returned (.int .i64 (idxA p xs)) ∧ Below w.heap.size w w' := by
 have hl := h.len
 replace hf := hide hf
 go_enter Tryz.func188, Tryz.ntmps188
 go_wp2
 go_loopw [5, 8] (fun _ i wr => ∃ k : Nat, k ≤ xs.length ∧ i = .int .i64 k ∧ Hid ((xs.take k).any p = false) ∧ Hid (Below w.heap.size w wr)) (fun _ i _ => xs.length - (intOf i).toNat)
 case atStart => exact ⟨0, Nat.zero_le _, rfl, hide (by simp), hide (Below.refl _ _)⟩
 case round =>
  obtain ⟨k, hk, rfl, hc, hbr⟩ := hrel
  have hcw := bcell' hbr.out
  by_cases hlt : k < xs.length
  ·obtain ⟨b, o, ecs, rfl, hb0, hel, hcell, hr⟩ := h.2 k _ (List.getElem?_eq_getElem hlt)
   have hb : b < w.heap.size := by omega
   match ecs, hel with
   | [a0, a1], _ =>
    have x0 : w.cell? ⟨b, o + k * 2, none⟩ = some a0 := by simpa using hcell 0 a0 rfl
    have x1 : w.cell? ⟨b, o + k * 2 + 1, none⟩ = some a1 := by simpa using hcell 1 a1 rfl
    have hltz : (k : Int) < (xs.length : Int) := by omega
    have hcall : Calls Tryz.prog fid (#[.agg #[a0, a1]] ++ lb) wr _ := hf.out k xs[k] [a0, a1] wr (List.getElem?_eq_getElem hlt) hbr.out (sR.keep hr fun q hq => hbr.out.cell (Nat.lt_of_lt_of_le hq hB)) rfl
    clear h hcell hr
    cases hp : p xs[k] with
    | true =>
     rw [hp] at hcall
     have hv := hide (idxA_at hlt hc.out hp)
     clear hp
     go_wp2_with (go_at_fn fid; refine hcall.mono ?_; rintro e w' ⟨rfl, hb1⟩)
     go_ret
     exact ⟨ret_int hv.out.symm, hbr.out.trans (hb1.mono hbr.out.size)⟩
    | false =>
     rw [hp] at hcall
     have hv := hide (any_take_succ hlt hc.out hp)
     clear hp
     go_wp2_with (go_at_fn fid; refine hcall.mono ?_; rintro e w' ⟨rfl, hb1⟩)
     go_roundw
     case rel => exact ⟨k + 1, by omega, by go_num, hv, hide (hbr.out.trans (hb1.mono hbr.out.size))⟩
     case measure => simp [intOf]; omega
  ·have hv := hide (idxA_no (any_of_take hk hlt hc.out))
   go_wp2
   go_ret
   exact ⟨ret_int hv.out.symm, hbr.out⟩
set_option maxHeartbeats 1000000 in
theorem indexFunc_State {α : Type} {R : CR α} (sR : Sta R) {B : Nat} (fid : Nat) (lb : Array Value) (eg : ∀ args w, (callFunc fid args).run Tryz.prog w = .ok (.enter fid args) w) (p : α → Bool) (A : Option Addr) (cap : Nat) (xs : List α) (w : World) (hB : B ≤ w.heap.size) (h : Sl 5 R w B A xs) (hf : FnR aggV 5 B R fid lb p xs w) :
  Calls Tryz.prog 190 #[.slice A xs.length cap, .func (.func fid) #[] lb] w fun e w' => e = .returned (.int .i64 (idxA p xs)) ∧ Below w.heap.size w w' := by
 have hl := h.len
 replace hf := hide hf
 go_enter Tryz.func190, Tryz.ntmps190
 go_wp2
 go_loopw [5, 8] (fun _ i wr => ∃ k : Nat, k ≤ xs.length ∧ i = .int .i64 k ∧ Hid ((xs.take k).any p = false) ∧ Hid (Below w.heap.size w wr)) (fun _ i _ => xs.length - (intOf i).toNat)
 case atStart => exact ⟨0, Nat.zero_le _, rfl, hide (by simp), hide (Below.refl _ _)⟩
 case round =>
  obtain ⟨k, hk, rfl, hc, hbr⟩ := hrel
  have hcw := bcell' hbr.out
  by_cases hlt : k < xs.length
  ·obtain ⟨b, o, ecs, rfl, hb0, hel, hcell, hr⟩ := h.2 k _ (List.getElem?_eq_getElem hlt)
   have hb : b < w.heap.size := by omega
   match ecs, hel with
   | [a0, a1, a2, a3, a4], _ =>
    have x0 : w.cell? ⟨b, o + k * 5, none⟩ = some a0 := by simpa using hcell 0 a0 rfl
    have x1 : w.cell? ⟨b, o + k * 5 + 1, none⟩ = some a1 := by simpa using hcell 1 a1 rfl
    have x2 : w.cell? ⟨b, o + k * 5 + 2, none⟩ = some a2 := by simpa using hcell 2 a2 rfl
    have x3 : w.cell? ⟨b, o + k * 5 + 3, none⟩ = some a3 := by simpa using hcell 3 a3 rfl
    have x4 : w.cell? ⟨b, o + k * 5 + 4, none⟩ = some a4 := by simpa using hcell 4 a4 rfl
    have hltz : (k : Int) < (xs.length : Int) := by omega
    have hcall : Calls Tryz.prog fid (#[.agg #[a0, a1, a2, a3, a4]] ++ lb) wr _ := hf.out k xs[k] [a0, a1, a2, a3, a4] wr (List.getElem?_eq_getElem hlt) hbr.out (sR.keep hr fun q hq => hbr.out.cell (Nat.lt_of_lt_of_le hq hB)) rfl
    clear h hcell hr
    cases hp : p xs[k] with
    | true =>
     rw [hp] at hcall
     have hv := hide (idxA_at hlt hc.out hp)
     clear hp
     go_wp2_with (go_at_fn fid; refine hcall.mono ?_; rintro e w' ⟨rfl, hb1⟩)
     go_ret
     exact ⟨ret_int hv.out.symm, hbr.out.trans (hb1.mono hbr.out.size)⟩
    | false =>
     rw [hp] at hcall
     have hv := hide (any_take_succ hlt hc.out hp)
     clear hp
     go_wp2_with (go_at_fn fid; refine hcall.mono ?_; rintro e w' ⟨rfl, hb1⟩)
     go_roundw
     case rel => exact ⟨k + 1, by omega, by go_num, hv, hide (hbr.out.trans (hb1.mono hbr.out.size))⟩
     case measure => simp [intOf]; omega
  ·have hv := hide (idxA_no (any_of_take hk hlt hc.out))
   go_wp2
   go_ret
   exact ⟨ret_int hv.out.symm, hbr.out⟩
set_option maxHeartbeats 1000000 in
theorem indexFunc_Action {α : Type} {R : CR α} (sR : Sta R) {B : Nat} (fid : Nat) (lb : Array Value) (eg : ∀ args w, (callFunc fid args).run Tryz.prog w = .ok (.enter fid args) w) (p : α → Bool) (A : Option Addr) (cap : Nat) (xs : List α) (w : World) (hB : B ≤ w.heap.size) (h : Sl 3 R w B A xs) (hf : FnR aggV 3 B R fid lb p xs w) :
  Calls Tryz.prog 162 #[.slice A xs.length cap, .func (.func fid) #[] lb] w fun e w' => e = .returned (.int .i64 (idxA p xs)) ∧ Below w.heap.size w w' := by
 have hl := h.len
 replace hf := hide hf
 go_enter Tryz.func162, Tryz.ntmps162
 go_wp2
 go_loopw [5, 8] (fun _ i wr => ∃ k : Nat, k ≤ xs.length ∧ i = .int .i64 k ∧ Hid ((xs.take k).any p = false) ∧ Hid (Below w.heap.size w wr)) (fun _ i _ => xs.length - (intOf i).toNat)
 case atStart => exact ⟨0, Nat.zero_le _, rfl, hide (by simp), hide (Below.refl _ _)⟩
 case round =>
  obtain ⟨k, hk, rfl, hc, hbr⟩ := hrel
  have hcw := bcell' hbr.out
  by_cases hlt : k < xs.length
  ·obtain ⟨b, o, ecs, rfl, hb0, hel, hcell, hr⟩ := h.2 k _ (List.getElem?_eq_getElem hlt)
   have hb : b < w.heap.size := by omega
   match ecs, hel with
   | [a0, a1, a2], _ =>
    have x0 : w.cell? ⟨b, o + k * 3, none⟩ = some a0 := by simpa using hcell 0 a0 rfl
    have x1 : w.cell? ⟨b, o + k * 3 + 1, none⟩ = some a1 := by simpa using hcell 1 a1 rfl
    have x2 : w.cell? ⟨b, o + k * 3 + 2, none⟩ = some a2 := by simpa using hcell 2 a2 rfl
    have hltz : (k : Int) < (xs.length : Int) := by omega
    have hcall : Calls Tryz.prog fid (#[.agg #[a0, a1, a2]] ++ lb) wr _ := hf.out k xs[k] [a0, a1, a2] wr (List.getElem?_eq_getElem hlt) hbr.out (sR.keep hr fun q hq => hbr.out.cell (Nat.lt_of_lt_of_le hq hB)) rfl
    clear h hcell hr
    cases hp : p xs[k] with
    | true =>
     rw [hp] at hcall
     have hv := hide (idxA_at hlt hc.out hp)
     clear hp
     go_wp2_with (go_at_fn fid; refine hcall.mono ?_; rintro e w' ⟨rfl, hb1⟩)
     go_ret
     exact ⟨ret_int hv.out.symm, hbr.out.trans (hb1.mono hbr.out.size)⟩
    | false =>
     rw [hp] at hcall
     have hv := hide (any_take_succ hlt hc.out hp)
     clear hp
     go_wp2_with (go_at_fn fid; refine hcall.mono ?_; rintro e w' ⟨rfl, hb1⟩)
     go_roundw
     case rel => exact ⟨k + 1, by omega, by go_num, hv, hide (hbr.out.trans (hb1.mono hbr.out.size))⟩
     case measure => simp [intOf]; omega
  ·have hv := hide (idxA_no (any_of_take hk hlt hc.out))
   go_wp2
   go_ret
   exact ⟨ret_int hv.out.symm, hbr.out⟩
set_option maxHeartbeats 1000000 in
theorem indexFunc_Table {α : Type} {R : CR α} (sR : Sta R) {B : Nat} (fid : Nat) (lb : Array Value) (eg : ∀ args w, (callFunc fid args).run Tryz.prog w = .ok (.enter fid args) w) (p : α → Bool) (A : Option Addr) (cap : Nat) (xs : List α) (w : World) (hB : B ≤ w.heap.size) (h : Sl 5 R w B A xs) (hf : FnR aggV 5 B R fid lb p xs w) :
  Calls Tryz.prog 195 #[.slice A xs.length cap, .func (.func fid) #[] lb] w fun e w' => e = .returned (.int .i64 (idxA p xs)) ∧ Below w.heap.size w w' := by
 have hl := h.len
 replace hf := hide hf
 go_enter Tryz.func195, Tryz.ntmps195
 go_wp2
 go_loopw [5, 8] (fun _ i wr => ∃ k : Nat, k ≤ xs.length ∧ i = .int .i64 k ∧ Hid ((xs.take k).any p = false) ∧ Hid (Below w.heap.size w wr)) (fun _ i _ => xs.length - (intOf i).toNat)
 case atStart => exact ⟨0, Nat.zero_le _, rfl, hide (by simp), hide (Below.refl _ _)⟩
 case round =>
  obtain ⟨k, hk, rfl, hc, hbr⟩ := hrel
  have hcw := bcell' hbr.out
  by_cases hlt : k < xs.length
  ·obtain ⟨b, o, ecs, rfl, hb0, hel, hcell, hr⟩ := h.2 k _ (List.getElem?_eq_getElem hlt)
   have hb : b < w.heap.size := by omega
   match ecs, hel with
   | [a0, a1, a2, a3, a4], _ =>
    have x0 : w.cell? ⟨b, o + k * 5, none⟩ = some a0 := by simpa using hcell 0 a0 rfl
    have x1 : w.cell? ⟨b, o + k * 5 + 1, none⟩ = some a1 := by simpa using hcell 1 a1 rfl
    have x2 : w.cell? ⟨b, o + k * 5 + 2, none⟩ = some a2 := by simpa using hcell 2 a2 rfl
    have x3 : w.cell? ⟨b, o + k * 5 + 3, none⟩ = some a3 := by simpa using hcell 3 a3 rfl
    have x4 : w.cell? ⟨b, o + k * 5 + 4, none⟩ = some a4 := by simpa using hcell 4 a4 rfl
    have hltz : (k : Int) < (xs.length : Int) := by omega
    have hcall : Calls Tryz.prog fid (#[.agg #[a0, a1, a2, a3, a4]] ++ lb) wr _ := hf.out k xs[k] [a0, a1, a2, a3, a4] wr (List.getElem?_eq_getElem hlt) hbr.out (sR.keep hr fun q hq => hbr.out.cell (Nat.lt_of_lt_of_le hq hB)) rfl
    clear h hcell hr
    cases hp : p xs[k] with
    | true =>
     rw [hp] at hcall
     have hv := hide (idxA_at hlt hc.out hp)
     clear hp
     go_wp2_with (go_at_fn fid; refine hcall.mono ?_; rintro e w' ⟨rfl, hb1⟩)
     go_ret
     exact ⟨ret_int hv.out.symm, hbr.out.trans (hb1.mono hbr.out.size)⟩
    | false =>
     rw [hp] at hcall
     have hv := hide (any_take_succ hlt hc.out hp)
     clear hp
     go_wp2_with (go_at_fn fid; refine hcall.mono ?_; rintro e w' ⟨rfl, hb1⟩)
     go_roundw
     case rel => exact ⟨k + 1, by omega, by go_num, hv, hide (hbr.out.trans (hb1.mono hbr.out.size))⟩
     case measure => simp [intOf]; omega
  ·have hv := hide (idxA_no (any_of_take hk hlt hc.out))
   go_wp2
   go_ret
   exact ⟨ret_int hv.out.symm, hbr.out⟩
set_option maxHeartbeats 1000000 in
theorem indexFunc_string {α : Type} {R : CR α} (sR : Sta R) {B : Nat} (fid : Nat) (lb : Array Value) (eg : ∀ args w, (callFunc fid args).run Tryz.prog w = .ok (.enter fid args) w) (p : α → Bool) (A : Option Addr) (cap : Nat) (xs : List α) (w : World) (hB : B ≤ w.heap.size) (h : Sl 1 R w B A xs) (hf : FnR oneV 1 B R fid lb p xs w) :
  Calls Tryz.prog 203 #[.slice A xs.length cap, .func (.func fid) #[] lb] w fun e w' => e = .returned (.int .i64 (idxA p xs)) ∧ Below w.heap.size w w' := by
 have hl := h.len
 replace hf := hide hf
 go_enter Tryz.func203, Tryz.ntmps203
 go_wp2
 go_loopw [5, 8] (fun _ i wr => ∃ k : Nat, k ≤ xs.length ∧ i = .int .i64 k ∧ Hid ((xs.take k).any p = false) ∧ Hid (Below w.heap.size w wr)) (fun _ i _ => xs.length - (intOf i).toNat)
 case atStart => exact ⟨0, Nat.zero_le _, rfl, hide (by simp), hide (Below.refl _ _)⟩
 case round =>
  obtain ⟨k, hk, rfl, hc, hbr⟩ := hrel
  have hcw := bcell' hbr.out
  by_cases hlt : k < xs.length
  ·obtain ⟨b, o, ecs, rfl, hb0, hel, hcell, hr⟩ := h.2 k _ (List.getElem?_eq_getElem hlt)
   have hb : b < w.heap.size := by omega
   match ecs, hel with
   | [a0], _ =>
    have x0 : w.cell? ⟨b, o + k, none⟩ = some a0 := by simpa using hcell 0 a0 rfl
    have hltz : (k : Int) < (xs.length : Int) := by omega
    have hcall : Calls Tryz.prog fid (#[a0] ++ lb) wr _ := hf.out k xs[k] [a0] wr (List.getElem?_eq_getElem hlt) hbr.out (sR.keep hr fun q hq => hbr.out.cell (Nat.lt_of_lt_of_le hq hB)) rfl
    clear h hcell hr
    cases hp : p xs[k] with
    | true =>
     rw [hp] at hcall
     have hv := hide (idxA_at hlt hc.out hp)
     clear hp
     go_wp2_with (go_at_fn fid; refine hcall.mono ?_; rintro e w' ⟨rfl, hb1⟩)
     go_ret
     exact ⟨ret_int hv.out.symm, hbr.out.trans (hb1.mono hbr.out.size)⟩
    | false =>
     rw [hp] at hcall
     have hv := hide (any_take_succ hlt hc.out hp)
     clear hp
     go_wp2_with (go_at_fn fid; refine hcall.mono ?_; rintro e w' ⟨rfl, hb1⟩)
     go_roundw
     case rel => exact ⟨k + 1, by omega, by go_num, hv, hide (hbr.out.trans (hb1.mono hbr.out.size))⟩
     case measure => simp [intOf]; omega
  ·have hv := hide (idxA_no (any_of_take hk hlt hc.out))
   go_wp2
   go_ret
   exact ⟨ret_int hv.out.symm, hbr.out⟩
set_option maxHeartbeats 1000000 in
theorem indexFunc_Expr {α : Type} {R : CR α} (sR : Sta R) {B : Nat} (fid : Nat) (lb : Array Value) (eg : ∀ args w, (callFunc fid args).run Tryz.prog w = .ok (.enter fid args) w) (p : α → Bool) (A : Option Addr) (cap : Nat) (xs : List α) (w : World) (hB : B ≤ w.heap.size) (h : Sl 9 R w B A xs) (hf : FnR aggV 9 B R fid lb p xs w) :
  Calls Tryz.prog 185 #[.slice A xs.length cap, .func (.func fid) #[] lb] w fun e w' => e = .returned (.int .i64 (idxA p xs)) ∧ Below w.heap.size w w' := by
 have hl := h.len
 replace hf := hide hf
 go_enter Tryz.func185, Tryz.ntmps185
 go_wp2
 go_loopw [5, 8] (fun _ i wr => ∃ k : Nat, k ≤ xs.length ∧ i = .int .i64 k ∧ Hid ((xs.take k).any p = false) ∧ Hid (Below w.heap.size w wr)) (fun _ i _ => xs.length - (intOf i).toNat)
 case atStart => exact ⟨0, Nat.zero_le _, rfl, hide (by simp), hide (Below.refl _ _)⟩
 case round =>
  obtain ⟨k, hk, rfl, hc, hbr⟩ := hrel
  have hcw := bcell' hbr.out
  by_cases hlt : k < xs.length
  ·obtain ⟨b, o, ecs, rfl, hb0, hel, hcell, hr⟩ := h.2 k _ (List.getElem?_eq_getElem hlt)
   have hb : b < w.heap.size := by omega
   match ecs, hel with
   | [a0, a1, a2, a3, a4, a5, a6, a7, a8], _ =>
    have x0 : w.cell? ⟨b, o + k * 9, none⟩ = some a0 := by simpa using hcell 0 a0 rfl
    have x1 : w.cell? ⟨b, o + k * 9 + 1, none⟩ = some a1 := by simpa using hcell 1 a1 rfl
    have x2 : w.cell? ⟨b, o + k * 9 + 2, none⟩ = some a2 := by simpa using hcell 2 a2 rfl
    have x3 : w.cell? ⟨b, o + k * 9 + 3, none⟩ = some a3 := by simpa using hcell 3 a3 rfl
    have x4 : w.cell? ⟨b, o + k * 9 + 4, none⟩ = some a4 := by simpa using hcell 4 a4 rfl
    have x5 : w.cell? ⟨b, o + k * 9 + 5, none⟩ = some a5 := by simpa using hcell 5 a5 rfl
    have x6 : w.cell? ⟨b, o + k * 9 + 6, none⟩ = some a6 := by simpa using hcell 6 a6 rfl
    have x7 : w.cell? ⟨b, o + k * 9 + 7, none⟩ = some a7 := by simpa using hcell 7 a7 rfl
    have x8 : w.cell? ⟨b, o + k * 9 + 8, none⟩ = some a8 := by simpa using hcell 8 a8 rfl
    have hltz : (k : Int) < (xs.length : Int) := by omega
    have hcall : Calls Tryz.prog fid (#[.agg #[a0, a1, a2, a3, a4, a5, a6, a7, a8]] ++ lb) wr _ := hf.out k xs[k] [a0, a1, a2, a3, a4, a5, a6, a7, a8] wr (List.getElem?_eq_getElem hlt) hbr.out (sR.keep hr fun q hq => hbr.out.cell (Nat.lt_of_lt_of_le hq hB)) rfl
    clear h hcell hr
    cases hp : p xs[k] with
    | true =>
     rw [hp] at hcall
     have hv := hide (idxA_at hlt hc.out hp)
     clear hp
     go_wp2_with (go_at_fn fid; refine hcall.mono ?_; rintro e w' ⟨rfl, hb1⟩)
     go_ret
     exact ⟨ret_int hv.out.symm, hbr.out.trans (hb1.mono hbr.out.size)⟩
    | false =>
     rw [hp] at hcall
     have hv := hide (any_take_succ hlt hc.out hp)
     clear hp
     go_wp2_with (go_at_fn fid; refine hcall.mono ?_; rintro e w' ⟨rfl, hb1⟩)
     go_roundw
     case rel => exact ⟨k + 1, by omega, by go_num, hv, hide (hbr.out.trans (hb1.mono hbr.out.size))⟩
     case measure => simp [intOf]; omega
  ·have hv := hide (idxA_no (any_of_take hk hlt hc.out))
   go_wp2
   go_ret
   exact ⟨ret_int hv.out.symm, hbr.out⟩
set_option maxHeartbeats 1000000 in
theorem indexFunc_Case {α : Type} {R : CR α} (sR : Sta R) {B : Nat} (fid : Nat) (lb : Array Value) (eg : ∀ args w, (callFunc fid args).run Tryz.prog w = .ok (.enter fid args) w) (p : α → Bool) (A : Option Addr) (cap : Nat) (xs : List α) (w : World) (hB : B ≤ w.heap.size) (h : Sl 3 R w B A xs) (hf : FnR aggV 3 B R fid lb p xs w) :
  Calls Tryz.prog 218 #[.slice A xs.length cap, .func (.func fid) #[] lb] w fun e w' => e = .returned (.int .i64 (idxA p xs)) ∧ Below w.heap.size w w' := by
 have hl := h.len
 replace hf := hide hf
 go_enter Tryz.func218, Tryz.ntmps218
 go_wp2
 go_loopw [5, 8] (fun _ i wr => ∃ k : Nat, k ≤ xs.length ∧ i = .int .i64 k ∧ Hid ((xs.take k).any p = false) ∧ Hid (Below w.heap.size w wr)) (fun _ i _ => xs.length - (intOf i).toNat)
 case atStart => exact ⟨0, Nat.zero_le _, rfl, hide (by simp), hide (Below.refl _ _)⟩
 case round =>
  obtain ⟨k, hk, rfl, hc, hbr⟩ := hrel
  have hcw := bcell' hbr.out
  by_cases hlt : k < xs.length
  ·obtain ⟨b, o, ecs, rfl, hb0, hel, hcell, hr⟩ := h.2 k _ (List.getElem?_eq_getElem hlt)
   have hb : b < w.heap.size := by omega
   match ecs, hel with
   | [a0, a1, a2], _ =>
    have x0 : w.cell? ⟨b, o + k * 3, none⟩ = some a0 := by simpa using hcell 0 a0 rfl
    have x1 : w.cell? ⟨b, o + k * 3 + 1, none⟩ = some a1 := by simpa using hcell 1 a1 rfl
    have x2 : w.cell? ⟨b, o + k * 3 + 2, none⟩ = some a2 := by simpa using hcell 2 a2 rfl
    have hltz : (k : Int) < (xs.length : Int) := by omega
    have hcall : Calls Tryz.prog fid (#[.agg #[a0, a1, a2]] ++ lb) wr _ := hf.out k xs[k] [a0, a1, a2] wr (List.getElem?_eq_getElem hlt) hbr.out (sR.keep hr fun q hq => hbr.out.cell (Nat.lt_of_lt_of_le hq hB)) rfl
    clear h hcell hr
    cases hp : p xs[k] with
    | true =>
     rw [hp] at hcall
     have hv := hide (idxA_at hlt hc.out hp)
     clear hp
     go_wp2_with (go_at_fn fid; refine hcall.mono ?_; rintro e w' ⟨rfl, hb1⟩)
     go_ret
     exact ⟨ret_int hv.out.symm, hbr.out.trans (hb1.mono hbr.out.size)⟩
    | false =>
     rw [hp] at hcall
     have hv := hide (any_take_succ hlt hc.out hp)
     clear hp
     go_wp2_with (go_at_fn fid; refine hcall.mono ?_; rintro e w' ⟨rfl, hb1⟩)
     go_roundw
     case rel => exact ⟨k + 1, by omega, by go_num, hv, hide (hbr.out.trans (hb1.mono hbr.out.size))⟩
     case measure => simp [intOf]; omega
  ·have hv := hide (idxA_no (any_of_take hk hlt hc.out))
   go_wp2
   go_ret
   exact ⟨ret_int hv.out.symm, hbr.out⟩
set_option maxHeartbeats 1000000 in
theorem indexFunc_Set {α : Type} {R : CR α} (sR : Sta R) {B : Nat} (fid : Nat) (lb : Array Value) (eg : ∀ args w, (callFunc fid args).run Tryz.prog w = .ok (.enter fid args) w) (p : α → Bool) (A : Option Addr) (cap : Nat) (xs : List α) (w : World) (hB : B ≤ w.heap.size) (h : Sl 7 R w B A xs) (hf : FnR aggV 7 B R fid lb p xs w) :
  Calls Tryz.prog 219 #[.slice A xs.length cap, .func (.func fid) #[] lb] w fun e w' => e = .returned (.int .i64 (idxA p xs)) ∧ Below w.heap.size w w' := by
 have hl := h.len
 replace hf := hide hf
 go_enter Tryz.func219, Tryz.ntmps219
 go_wp2
 go_loopw [5, 8] (fun _ i wr => ∃ k : Nat, k ≤ xs.length ∧ i = .int .i64 k ∧ Hid ((xs.take k).any p = false) ∧ Hid (Below w.heap.size w wr)) (fun _ i _ => xs.length - (intOf i).toNat)
 case atStart => exact ⟨0, Nat.zero_le _, rfl, hide (by simp), hide (Below.refl _ _)⟩
 case round =>
  obtain ⟨k, hk, rfl, hc, hbr⟩ := hrel
  have hcw := bcell' hbr.out
  by_cases hlt : k < xs.length
  ·obtain ⟨b, o, ecs, rfl, hb0, hel, hcell, hr⟩ := h.2 k _ (List.getElem?_eq_getElem hlt)
   have hb : b < w.heap.size := by omega
   match ecs, hel with
   | [a0, a1, a2, a3, a4, a5, a6], _ =>
    have x0 : w.cell? ⟨b, o + k * 7, none⟩ = some a0 := by simpa using hcell 0 a0 rfl
    have x1 : w.cell? ⟨b, o + k * 7 + 1, none⟩ = some a1 := by simpa using hcell 1 a1 rfl
    have x2 : w.cell? ⟨b, o + k * 7 + 2, none⟩ = some a2 := by simpa using hcell 2 a2 rfl
    have x3 : w.cell? ⟨b, o + k * 7 + 3, none⟩ = some a3 := by simpa using hcell 3 a3 rfl
    have x4 : w.cell? ⟨b, o + k * 7 + 4, none⟩ = some a4 := by simpa using hcell 4 a4 rfl
    have x5 : w.cell? ⟨b, o + k * 7 + 5, none⟩ = some a5 := by simpa using hcell 5 a5 rfl
    have x6 : w.cell? ⟨b, o + k * 7 + 6, none⟩ = some a6 := by simpa using hcell 6 a6 rfl
    have hltz : (k : Int) < (xs.length : Int) := by omega
    have hcall : Calls Tryz.prog fid (#[.agg #[a0, a1, a2, a3, a4, a5, a6]] ++ lb) wr _ := hf.out k xs[k] [a0, a1, a2, a3, a4, a5, a6] wr (List.getElem?_eq_getElem hlt) hbr.out (sR.keep hr fun q hq => hbr.out.cell (Nat.lt_of_lt_of_le hq hB)) rfl
    clear h hcell hr
    cases hp : p xs[k] with
    | true =>
     rw [hp] at hcall
     have hv := hide (idxA_at hlt hc.out hp)
     clear hp
     go_wp2_with (go_at_fn fid; refine hcall.mono ?_; rintro e w' ⟨rfl, hb1⟩)
     go_ret
     exact ⟨ret_int hv.out.symm, hbr.out.trans (hb1.mono hbr.out.size)⟩
    | false =>
     rw [hp] at hcall
     have hv := hide (any_take_succ hlt hc.out hp)
     clear hp
     go_wp2_with (go_at_fn fid; refine hcall.mono ?_; rintro e w' ⟨rfl, hb1⟩)
     go_roundw
     case rel => exact ⟨k + 1, by omega, by go_num, hv, hide (hbr.out.trans (hb1.mono hbr.out.size))⟩
     case measure => simp [intOf]; omega
  ·have hv := hide (idxA_no (any_of_take hk hlt hc.out))
   go_wp2
   go_ret
   exact ⟨ret_int hv.out.symm, hbr.out⟩
set_option maxHeartbeats 1000000 in
theorem indexFunc_Key {α : Type} {R : CR α} (sR : Sta R) {B : Nat} (fid : Nat) (lb : Array Value) (eg : ∀ args w, (callFunc fid args).run Tryz.prog w = .ok (.enter fid args) w) (p : α → Bool) (A : Option Addr) (cap : Nat) (xs : List α) (w : World) (hB : B ≤ w.heap.size) (h : Sl 10 R w B A xs) (hf : FnR aggV 10 B R fid lb p xs w) :
  Calls Tryz.prog 220 #[.slice A xs.length cap, .func (.func fid) #[] lb] w fun e w' => e = .returned (.int .i64 (idxA p xs)) ∧ Below w.heap.size w w' := by
 have hl := h.len
 replace hf := hide hf
 go_enter Tryz.func220, Tryz.ntmps220
 go_wp2
 go_loopw [5, 8] (fun _ i wr => ∃ k : Nat, k ≤ xs.length ∧ i = .int .i64 k ∧ Hid ((xs.take k).any p = false) ∧ Hid (Below w.heap.size w wr)) (fun _ i _ => xs.length - (intOf i).toNat)
 case atStart => exact ⟨0, Nat.zero_le _, rfl, hide (by simp), hide (Below.refl _ _)⟩
 case round =>
  obtain ⟨k, hk, rfl, hc, hbr⟩ := hrel
  have hcw := bcell' hbr.out
  by_cases hlt : k < xs.length
  ·obtain ⟨b, o, ecs, rfl, hb0, hel, hcell, hr⟩ := h.2 k _ (List.getElem?_eq_getElem hlt)
   have hb : b < w.heap.size := by omega
   match ecs, hel with
   | [a0, a1, a2, a3, a4, a5, a6, a7, a8, a9], _ =>
    have x0 : w.cell? ⟨b, o + k * 10, none⟩ = some a0 := by simpa using hcell 0 a0 rfl
    have x1 : w.cell? ⟨b, o + k * 10 + 1, none⟩ = some a1 := by simpa using hcell 1 a1 rfl
    have x2 : w.cell? ⟨b, o + k * 10 + 2, none⟩ = some a2 := by simpa using hcell 2 a2 rfl
    have x3 : w.cell? ⟨b, o + k * 10 + 3, none⟩ = some a3 := by simpa using hcell 3 a3 rfl
    have x4 : w.cell? ⟨b, o + k * 10 + 4, none⟩ = some a4 := by simpa using hcell 4 a4 rfl
    have x5 : w.cell? ⟨b, o + k * 10 + 5, none⟩ = some a5 := by simpa using hcell 5 a5 rfl
    have x6 : w.cell? ⟨b, o + k * 10 + 6, none⟩ = some a6 := by simpa using hcell 6 a6 rfl
    have x7 : w.cell? ⟨b, o + k * 10 + 7, none⟩ = some a7 := by simpa using hcell 7 a7 rfl
    have x8 : w.cell? ⟨b, o + k * 10 + 8, none⟩ = some a8 := by simpa using hcell 8 a8 rfl
    have x9 : w.cell? ⟨b, o + k * 10 + 9, none⟩ = some a9 := by simpa using hcell 9 a9 rfl
    have hltz : (k : Int) < (xs.length : Int) := by omega
    have hcall : Calls Tryz.prog fid (#[.agg #[a0, a1, a2, a3, a4, a5, a6, a7, a8, a9]] ++ lb) wr _ := hf.out k xs[k] [a0, a1, a2, a3, a4, a5, a6, a7, a8, a9] wr (List.getElem?_eq_getElem hlt) hbr.out (sR.keep hr fun q hq => hbr.out.cell (Nat.lt_of_lt_of_le hq hB)) rfl
    clear h hcell hr
    cases hp : p xs[k] with
    | true =>
     rw [hp] at hcall
     have hv := hide (idxA_at hlt hc.out hp)
     clear hp
     go_wp2_with (go_at_fn fid; refine hcall.mono ?_; rintro e w' ⟨rfl, hb1⟩)
     go_ret
     exact ⟨ret_int hv.out.symm, hbr.out.trans (hb1.mono hbr.out.size)⟩
    | false =>
     rw [hp] at hcall
     have hv := hide (any_take_succ hlt hc.out hp)
     clear hp
     go_wp2_with (go_at_fn fid; refine hcall.mono ?_; rintro e w' ⟨rfl, hb1⟩)
     go_roundw
     case rel => exact ⟨k + 1, by omega, by go_num, hv, hide (hbr.out.trans (hb1.mono hbr.out.size))⟩
     case measure => simp [intOf]; omega
  ·have hv := hide (idxA_no (any_of_take hk hlt hc.out))
   go_wp2
   go_ret
   exact ⟨ret_int hv.out.symm, hbr.out⟩
set_option maxHeartbeats 1000000 in
theorem indexFunc_Lit {α : Type} {R : CR α} (sR : Sta R) {B : Nat} (fid : Nat) (lb : Array Value) (eg : ∀ args w, (callFunc fid args).run Tryz.prog w = .ok (.enter fid args) w) (p : α → Bool) (A : Option Addr) (cap : Nat) (xs : List α) (w : World) (hB : B ≤ w.heap.size) (h : Sl 3 R w B A xs) (hf : FnR aggV 3 B R fid lb p xs w) :
  Calls Tryz.prog 221 #[.slice A xs.length cap, .func (.func fid) #[] lb] w fun e w' => e = .returned (.int .i64 (idxA p xs)) ∧ Below w.heap.size w w' := by
 have hl := h.len
 replace hf := hide hf
 go_enter Tryz.func221, Tryz.ntmps221
 go_wp2
 go_loopw [5, 8] (fun _ i wr => ∃ k : Nat, k ≤ xs.length ∧ i = .int .i64 k ∧ Hid ((xs.take k).any p = false) ∧ Hid (Below w.heap.size w wr)) (fun _ i _ => xs.length - (intOf i).toNat)
 case atStart => exact ⟨0, Nat.zero_le _, rfl, hide (by simp), hide (Below.refl _ _)⟩
 case round =>
  obtain ⟨k, hk, rfl, hc, hbr⟩ := hrel
  have hcw := bcell' hbr.out
  by_cases hlt : k < xs.length
  ·obtain ⟨b, o, ecs, rfl, hb0, hel, hcell, hr⟩ := h.2 k _ (List.getElem?_eq_getElem hlt)
   have hb : b < w.heap.size := by omega
   match ecs, hel with
   | [a0, a1, a2], _ =>
    have x0 : w.cell? ⟨b, o + k * 3, none⟩ = some a0 := by simpa using hcell 0 a0 rfl
    have x1 : w.cell? ⟨b, o + k * 3 + 1, none⟩ = some a1 := by simpa using hcell 1 a1 rfl
    have x2 : w.cell? ⟨b, o + k * 3 + 2, none⟩ = some a2 := by simpa using hcell 2 a2 rfl
    have hltz : (k : Int) < (xs.length : Int) := by omega
    have hcall : Calls Tryz.prog fid (#[.agg #[a0, a1, a2]] ++ lb) wr _ := hf.out k xs[k] [a0, a1, a2] wr (List.getElem?_eq_getElem hlt) hbr.out (sR.keep hr fun q hq => hbr.out.cell (Nat.lt_of_lt_of_le hq hB)) rfl
    clear h hcell hr
    cases hp : p xs[k] with
    | true =>
     rw [hp] at hcall
     have hv := hide (idxA_at hlt hc.out hp)
     clear hp
     go_wp2_with (go_at_fn fid; refine hcall.mono ?_; rintro e w' ⟨rfl, hb1⟩)
     go_ret
     exact ⟨ret_int hv.out.symm, hbr.out.trans (hb1.mono hbr.out.size)⟩
    | false =>
     rw [hp] at hcall
     have hv := hide (any_take_succ hlt hc.out hp)
     clear hp
     go_wp2_with (go_at_fn fid; refine hcall.mono ?_; rintro e w' ⟨rfl, hb1⟩)
     go_roundw
     case rel => exact ⟨k + 1, by omega, by go_num, hv, hide (hbr.out.trans (hb1.mono hbr.out.size))⟩
     case measure => simp [intOf]; omega
  ·have hv := hide (idxA_no (any_of_take hk hlt hc.out))
   go_wp2
   go_ret
   exact ⟨ret_int hv.out.symm, hbr.out⟩
set_option maxHeartbeats 1000000 in
theorem indexFunc_Stmt {α : Type} {R : CR α} (sR : Sta R) {B : Nat} (fid : Nat) (lb : Array Value) (eg : ∀ args w, (callFunc fid args).run Tryz.prog w = .ok (.enter fid args) w) (p : α → Bool) (A : Option Addr) (cap : Nat) (xs : List α) (w : World) (hB : B ≤ w.heap.size) (h : Sl 14 R w B A xs) (hf : FnR aggV 14 B R fid lb p xs w) :
  Calls Tryz.prog 222 #[.slice A xs.length cap, .func (.func fid) #[] lb] w fun e w' => e = .returned (.int .i64 (idxA p xs)) ∧ Below w.heap.size w w' := by
 have hl := h.len
 replace hf := hide hf
 go_enter Tryz.func222, Tryz.ntmps222
 go_wp2
 go_loopw [5, 8] (fun _ i wr => ∃ k : Nat, k ≤ xs.length ∧ i = .int .i64 k ∧ Hid ((xs.take k).any p = false) ∧ Hid (Below w.heap.size w wr)) (fun _ i _ => xs.length - (intOf i).toNat)
 case atStart => exact ⟨0, Nat.zero_le _, rfl, hide (by simp), hide (Below.refl _ _)⟩
 case round =>
  obtain ⟨k, hk, rfl, hc, hbr⟩ := hrel
  have hcw := bcell' hbr.out
  by_cases hlt : k < xs.length
  ·obtain ⟨b, o, ecs, rfl, hb0, hel, hcell, hr⟩ := h.2 k _ (List.getElem?_eq_getElem hlt)
   have hb : b < w.heap.size := by omega
   match ecs, hel with
   | [a0, a1, a2, a3, a4, a5, a6, a7, a8, a9, a10, a11, a12, a13], _ =>
    have x0 : w.cell? ⟨b, o + k * 14, none⟩ = some a0 := by simpa using hcell 0 a0 rfl
    have x1 : w.cell? ⟨b, o + k * 14 + 1, none⟩ = some a1 := by simpa using hcell 1 a1 rfl
    have x2 : w.cell? ⟨b, o + k * 14 + 2, none⟩ = some a2 := by simpa using hcell 2 a2 rfl
    have x3 : w.cell? ⟨b, o + k * 14 + 3, none⟩ = some a3 := by simpa using hcell 3 a3 rfl
    have x4 : w.cell? ⟨b, o + k * 14 + 4, none⟩ = some a4 := by simpa using hcell 4 a4 rfl
    have x5 : w.cell? ⟨b, o + k * 14 + 5, none⟩ = some a5 := by simpa using hcell 5 a5 rfl
    have x6 : w.cell? ⟨b, o + k * 14 + 6, none⟩ = some a6 := by simpa using hcell 6 a6 rfl
    have x7 : w.cell? ⟨b, o + k * 14 + 7, none⟩ = some a7 := by simpa using hcell 7 a7 rfl
    have x8 : w.cell? ⟨b, o + k * 14 + 8, none⟩ = some a8 := by simpa using hcell 8 a8 rfl
    have x9 : w.cell? ⟨b, o + k * 14 + 9, none⟩ = some a9 := by simpa using hcell 9 a9 rfl
    have x10 : w.cell? ⟨b, o + k * 14 + 10, none⟩ = some a10 := by simpa using hcell 10 a10 rfl
    have x11 : w.cell? ⟨b, o + k * 14 + 11, none⟩ = some a11 := by simpa using hcell 11 a11 rfl
    have x12 : w.cell? ⟨b, o + k * 14 + 12, none⟩ = some a12 := by simpa using hcell 12 a12 rfl
    have x13 : w.cell? ⟨b, o + k * 14 + 13, none⟩ = some a13 := by simpa using hcell 13 a13 rfl
    have hltz : (k : Int) < (xs.length : Int) := by omega
    have hcall : Calls Tryz.prog fid (#[.agg #[a0, a1, a2, a3, a4, a5, a6, a7, a8, a9, a10, a11, a12, a13]] ++ lb) wr _ := hf.out k xs[k] [a0, a1, a2, a3, a4, a5, a6, a7, a8, a9, a10, a11, a12, a13] wr (List.getElem?_eq_getElem hlt) hbr.out (sR.keep hr fun q hq => hbr.out.cell (Nat.lt_of_lt_of_le hq hB)) rfl
    clear h hcell hr
    cases hp : p xs[k] with
    | true =>
     rw [hp] at hcall
     have hv := hide (idxA_at hlt hc.out hp)
     clear hp
     go_wp2_with (go_at_fn fid; refine hcall.mono ?_; rintro e w' ⟨rfl, hb1⟩)
     go_ret
     exact ⟨ret_int hv.out.symm, hbr.out.trans (hb1.mono hbr.out.size)⟩
    | false =>
     rw [hp] at hcall
     have hv := hide (any_take_succ hlt hc.out hp)
     clear hp
     go_wp2_with (go_at_fn fid; refine hcall.mono ?_; rintro e w' ⟨rfl, hb1⟩)
     go_roundw
     case rel => exact ⟨k + 1, by omega, by go_num, hv, hide (hbr.out.trans (hb1.mono hbr.out.size))⟩
     case measure => simp [intOf]; omega
  ·have hv := hide (idxA_no (any_of_take hk hlt hc.out))
   go_wp2
   go_ret
   exact ⟨ret_int hv.out.symm, hbr.out⟩
set_option maxHeartbeats 1000000 in
theorem containsFunc_Header {α : Type} {R : CR α} (sR : Sta R) {B : Nat} (fid : Nat) (lb : Array Value) (eg : ∀ args w, (callFunc fid args).run Tryz.prog w = .ok (.enter fid args) w) (p : α → Bool) (A : Option Addr) (cap : Nat) (xs : List α) (w : World) (hB : B ≤ w.heap.size) (h : Sl 2 R w B A xs) (hf : FnR aggV 2 B R fid lb p xs w) :
  Calls Tryz.prog 130 #[.slice A xs.length cap, .func (.func fid) #[] lb] w fun e w' => e = .returned (.bool (xs.any p)) ∧ Below w.heap.size w w' := by
 have hv := hide (idxA_nonneg p xs)
 replace hf := hide hf
 go_enter Tryz.func130, Tryz.ntmps130
 go_wp2_with (go_at_call 189; refine (indexFunc_Header sR fid lb eg p A cap xs _ hB h hf.out).mono ?_; rintro e w' ⟨rfl, hb⟩)
 go_ret
 exact ⟨ret_b hv.out, hb⟩
set_option maxHeartbeats 1000000 in
theorem containsFunc_Field {α : Type} {R : CR α} (sR : Sta R) {B : Nat} (fid : Nat) (lb : Array Value) (eg : ∀ args w, (callFunc fid args).run Tryz.prog w = .ok (.enter fid args) w) (p : α → Bool) (A : Option Addr) (cap : Nat) (xs : List α) (w : World) (hB : B ≤ w.heap.size) (h : Sl 2 R w B A xs) (hf : FnR aggV 2 B R fid lb p xs w) :
  Calls Tryz.prog 128 #[.slice A xs.length cap, .func (.func fid) #[] lb] w fun e w' => e = .returned (.bool (xs.any p)) ∧ Below w.heap.size w w' := by
 have hv := hide (idxA_nonneg p xs)
 replace hf := hide hf
 go_enter Tryz.func128, Tryz.ntmps128
 go_wp2_with (go_at_call 188; refine (indexFunc_Field sR fid lb eg p A cap xs _ hB h hf.out).mono ?_; rintro e w' ⟨rfl, hb⟩)
 go_ret
 exact ⟨ret_b hv.out, hb⟩
set_option maxHeartbeats 1000000 in
theorem containsFunc_State {α : Type} {R : CR α} (sR : Sta R) {B : Nat} (fid : Nat) (lb : Array Value) (eg : ∀ args w, (callFunc fid args).run Tryz.prog w = .ok (.enter fid args) w) (p : α → Bool) (A : Option Addr) (cap : Nat) (xs : List α) (w : World) (hB : B ≤ w.heap.size) (h : Sl 5 R w B A xs) (hf : FnR aggV 5 B R fid lb p xs w) :
  Calls Tryz.prog 132 #[.slice A xs.length cap, .func (.func fid) #[] lb] w fun e w' => e = .returned (.bool (xs.any p)) ∧ Below w.heap.size w w' := by
 have hv := hide (idxA_nonneg p xs)
 replace hf := hide hf
 go_enter Tryz.func132, Tryz.ntmps132
 go_wp2_with (go_at_call 190; refine (indexFunc_State sR fid lb eg p A cap xs _ hB h hf.out).mono ?_; rintro e w' ⟨rfl, hb⟩)
 go_ret
 exact ⟨ret_b hv.out, hb⟩
set_option maxHeartbeats 1000000 in
theorem containsFunc_Action {α : Type} {R : CR α} (sR : Sta R) {B : Nat} (fid : Nat) (lb : Array Value) (eg : ∀ args w, (callFunc fid args).run Tryz.prog w = .ok (.enter fid args) w) (p : α → Bool) (A : Option Addr) (cap : Nat) (xs : List α) (w : World) (hB : B ≤ w.heap.size) (h : Sl 3 R w B A xs) (hf : FnR aggV 3 B R fid lb p xs w) :
  Calls Tryz.prog 139 #[.slice A xs.length cap, .func (.func fid) #[] lb] w fun e w' => e = .returned (.bool (xs.any p)) ∧ Below w.heap.size w w' := by
 have hv := hide (idxA_nonneg p xs)
 replace hf := hide hf
 go_enter Tryz.func139, Tryz.ntmps139
 go_wp2_with (go_at_call 162; refine (indexFunc_Action sR fid lb eg p A cap xs _ hB h hf.out).mono ?_; rintro e w' ⟨rfl, hb⟩)
 go_ret
 exact ⟨ret_b hv.out, hb⟩
set_option maxHeartbeats 1000000 in
theorem containsFunc_Table {α : Type} {R : CR α} (sR : Sta R) {B : Nat} (fid : Nat) (lb : Array Value) (eg : ∀ args w, (callFunc fid args).run Tryz.prog w = .ok (.enter fid args) w) (p : α → Bool) (A : Option Addr) (cap : Nat) (xs : List α) (w : World) (hB : B ≤ w.heap.size) (h : Sl 5 R w B A xs) (hf : FnR aggV 5 B R fid lb p xs w) :
  Calls Tryz.prog 141 #[.slice A xs.length cap, .func (.func fid) #[] lb] w fun e w' => e = .returned (.bool (xs.any p)) ∧ Below w.heap.size w w' := by
 have hv := hide (idxA_nonneg p xs)
 replace hf := hide hf
 go_enter Tryz.func141, Tryz.ntmps141
 go_wp2_with (go_at_call 195; refine (indexFunc_Table sR fid lb eg p A cap xs _ hB h hf.out).mono ?_; rintro e w' ⟨rfl, hb⟩)
 go_ret
 exact ⟨ret_b hv.out, hb⟩
set_option maxHeartbeats 1000000 in
theorem containsFunc_string {α : Type} {R : CR α} (sR : Sta R) {B : Nat} (fid : Nat) (lb : Array Value) (eg : ∀ args w, (callFunc fid args).run Tryz.prog w = .ok (.enter fid args) w) (p : α → Bool) (A : Option Addr) (cap : Nat) (xs : List α) (w : World) (hB : B ≤ w.heap.size) (h : Sl 1 R w B A xs) (hf : FnR oneV 1 B R fid lb p xs w) :
  Calls Tryz.prog 149 #[.slice A xs.length cap, .func (.func fid) #[] lb] w fun e w' => e = .returned (.bool (xs.any p)) ∧ Below w.heap.size w w' := by
 have hv := hide (idxA_nonneg p xs)
 replace hf := hide hf
 go_enter Tryz.func149, Tryz.ntmps149
 go_wp2_with (go_at_call 203; refine (indexFunc_string sR fid lb eg p A cap xs _ hB h hf.out).mono ?_; rintro e w' ⟨rfl, hb⟩)
 go_ret
 exact ⟨ret_b hv.out, hb⟩
set_option maxHeartbeats 1000000 in
theorem containsFunc_Expr {α : Type} {R : CR α} (sR : Sta R) {B : Nat} (fid : Nat) (lb : Array Value) (eg : ∀ args w, (callFunc fid args).run Tryz.prog w = .ok (.enter fid args) w) (p : α → Bool) (A : Option Addr) (cap : Nat) (xs : List α) (w : World) (hB : B ≤ w.heap.size) (h : Sl 9 R w B A xs) (hf : FnR aggV 9 B R fid lb p xs w) :
  Calls Tryz.prog 122 #[.slice A xs.length cap, .func (.func fid) #[] lb] w fun e w' => e = .returned (.bool (xs.any p)) ∧ Below w.heap.size w w' := by
 have hv := hide (idxA_nonneg p xs)
 replace hf := hide hf
 go_enter Tryz.func122, Tryz.ntmps122
 go_wp2_with (go_at_call 185; refine (indexFunc_Expr sR fid lb eg p A cap xs _ hB h hf.out).mono ?_; rintro e w' ⟨rfl, hb⟩)
 go_ret
 exact ⟨ret_b hv.out, hb⟩
set_option maxHeartbeats 1000000 in
theorem containsFunc_Case {α : Type} {R : CR α} (sR : Sta R) {B : Nat} (fid : Nat) (lb : Array Value) (eg : ∀ args w, (callFunc fid args).run Tryz.prog w = .ok (.enter fid args) w) (p : α → Bool) (A : Option Addr) (cap : Nat) (xs : List α) (w : World) (hB : B ≤ w.heap.size) (h : Sl 3 R w B A xs) (hf : FnR aggV 3 B R fid lb p xs w) :
  Calls Tryz.prog 191 #[.slice A xs.length cap, .func (.func fid) #[] lb] w fun e w' => e = .returned (.bool (xs.any p)) ∧ Below w.heap.size w w' := by
 have hv := hide (idxA_nonneg p xs)
 replace hf := hide hf
 go_enter Tryz.func191, Tryz.ntmps191
 go_wp2_with (go_at_call 218; refine (indexFunc_Case sR fid lb eg p A cap xs _ hB h hf.out).mono ?_; rintro e w' ⟨rfl, hb⟩)
 go_ret
 exact ⟨ret_b hv.out, hb⟩
set_option maxHeartbeats 1000000 in
theorem containsFunc_Set {α : Type} {R : CR α} (sR : Sta R) {B : Nat} (fid : Nat) (lb : Array Value) (eg : ∀ args w, (callFunc fid args).run Tryz.prog w = .ok (.enter fid args) w) (p : α → Bool) (A : Option Addr) (cap : Nat) (xs : List α) (w : World) (hB : B ≤ w.heap.size) (h : Sl 7 R w B A xs) (hf : FnR aggV 7 B R fid lb p xs w) :
  Calls Tryz.prog 193 #[.slice A xs.length cap, .func (.func fid) #[] lb] w fun e w' => e = .returned (.bool (xs.any p)) ∧ Below w.heap.size w w' := by
 have hv := hide (idxA_nonneg p xs)
 replace hf := hide hf
 go_enter Tryz.func193, Tryz.ntmps193
 go_wp2_with (go_at_call 219; refine (indexFunc_Set sR fid lb eg p A cap xs _ hB h hf.out).mono ?_; rintro e w' ⟨rfl, hb⟩)
 go_ret
 exact ⟨ret_b hv.out, hb⟩
set_option maxHeartbeats 1000000 in
theorem containsFunc_Key {α : Type} {R : CR α} (sR : Sta R) {B : Nat} (fid : Nat) (lb : Array Value) (eg : ∀ args w, (callFunc fid args).run Tryz.prog w = .ok (.enter fid args) w) (p : α → Bool) (A : Option Addr) (cap : Nat) (xs : List α) (w : World) (hB : B ≤ w.heap.size) (h : Sl 10 R w B A xs) (hf : FnR aggV 10 B R fid lb p xs w) :
  Calls Tryz.prog 196 #[.slice A xs.length cap, .func (.func fid) #[] lb] w fun e w' => e = .returned (.bool (xs.any p)) ∧ Below w.heap.size w w' := by
 have hv := hide (idxA_nonneg p xs)
 replace hf := hide hf
 go_enter Tryz.func196, Tryz.ntmps196
 go_wp2_with (go_at_call 220; refine (indexFunc_Key sR fid lb eg p A cap xs _ hB h hf.out).mono ?_; rintro e w' ⟨rfl, hb⟩)
 go_ret
 exact ⟨ret_b hv.out, hb⟩
set_option maxHeartbeats 1000000 in
theorem containsFunc_Lit {α : Type} {R : CR α} (sR : Sta R) {B : Nat} (fid : Nat) (lb : Array Value) (eg : ∀ args w, (callFunc fid args).run Tryz.prog w = .ok (.enter fid args) w) (p : α → Bool) (A : Option Addr) (cap : Nat) (xs : List α) (w : World) (hB : B ≤ w.heap.size) (h : Sl 3 R w B A xs) (hf : FnR aggV 3 B R fid lb p xs w) :
  Calls Tryz.prog 198 #[.slice A xs.length cap, .func (.func fid) #[] lb] w fun e w' => e = .returned (.bool (xs.any p)) ∧ Below w.heap.size w w' := by
 have hv := hide (idxA_nonneg p xs)
 replace hf := hide hf
 go_enter Tryz.func198, Tryz.ntmps198
 go_wp2_with (go_at_call 221; refine (indexFunc_Lit sR fid lb eg p A cap xs _ hB h hf.out).mono ?_; rintro e w' ⟨rfl, hb⟩)
 go_ret
 exact ⟨ret_b hv.out, hb⟩
set_option maxHeartbeats 1000000 in
theorem containsFunc_Stmt {α : Type} {R : CR α} (sR : Sta R) {B : Nat} (fid : Nat) (lb : Array Value) (eg : ∀ args w, (callFunc fid args).run Tryz.prog w = .ok (.enter fid args) w) (p : α → Bool) (A : Option Addr) (cap : Nat) (xs : List α) (w : World) (hB : B ≤ w.heap.size) (h : Sl 14 R w B A xs) (hf : FnR aggV 14 B R fid lb p xs w) :
  Calls Tryz.prog 200 #[.slice A xs.length cap, .func (.func fid) #[] lb] w fun e w' => e = .returned (.bool (xs.any p)) ∧ Below w.heap.size w w' := by
 have hv := hide (idxA_nonneg p xs)
 replace hf := hide hf
 go_enter Tryz.func200, Tryz.ntmps200
 go_wp2_with (go_at_call 222; refine (indexFunc_Stmt sR fid lb eg p A cap xs _ hB h hf.out).mono ?_; rintro e w' ⟨rfl, hb⟩)
 go_ret
 exact ⟨ret_b hv.out, hb⟩
end Go.Proofs.YtbbdhknagofghaaGreat

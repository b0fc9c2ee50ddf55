import Derived.Test.YtmfpbahifhndjaaGreatLow02
import Derived.Lib.SliceRun
import Derived.Lib.Walk
import Derived.Shelf.Abstract
import Derived.Laws.EntriesVeiled
import Derived.Test.YtmfpbahifhndjaaGreatLow01
import Derived.Test.YtmfpbahifhndjaaGreatShelf
set_option linter.all false
/-! Plain: which programs may be, what names mean, a program's items, and what is wrong with one. -/
namespace Go.Proofs.YtmfpbahifhndjaaGreat
def strE : ByteArray := ByteArray.mk #[]
def zLt : Lt := (0, 0, 0)
def numV (l : Lt) : Int := l.2.1 * 18446744073709551616 + l.2.2
def fitsB (w : Int) (l : Lt) : Bool := decide (numV l < 2 ^ w.toNat)
def widthB (w : Int) : Bool := decide (1 ≤ w ∧ w ≤ 128)
def litB (l : Lt) : Bool := decide (l.1 = 0) || (widthB l.1 && fitsB l.1 l)
/-- What an expression of a kind has: head, name, number, ends; and how many arguments. -/
def formOf (op : Int) : Option ((Bool × Bool × Bool × Bool) × Int) :=
 if op = 1 then some ((false, false, true, false), 0) else if op = 2 then some ((true, true, false, false), 0) else if op = 3 ∨ op = 4 then some ((false, true, false, false), 0)
 else if op = 5 then some ((false, false, false, false), 0) else if op = 6 then some ((true, false, false, false), 0) else if 7 ≤ op ∧ op ≤ 9 then some ((false, false, false, false), 1)
 else if op = 10 then some ((false, false, false, true), 1) else if 11 ≤ op ∧ op ≤ 26 then some ((false, false, false, false), 2) else none
def namedB (s : ByteArray) (asked : Bool) : Bool := if asked then nameB s else decide (s = strE)
def oneB (op : Int) (lit : Lt) (head name : ByteArray) (hi lo : Int) (n : Nat) : Bool :=
 match formOf op with
 | none => false
 | some ((h, nm, l, en), a) => decide ((n : Int) = a) && namedB head h && namedB name nm && (if l then litB lit else decide (lit = zLt)) && (if en then decide (0 ≤ lo ∧ lo ≤ hi ∧ hi < 128) else decide (hi = 0 ∧ lo = 0))
def byB : Ex → Bool
 | .mk op lit _ _ _ _ _ => decide (op = 1) && decide (lit.1 = 0) && decide (numV lit ≤ 127)
def shB (op : Int) (args : List Ex) : Bool := if op = 14 ∨ op = 15 then (args[1]?).elim false byB else true
mutual
def allE : Ex → Bool
 | .mk op lit head name hi lo args => oneB op lit head name hi lo args.length && shB op args && allL args
def allL : List Ex → Bool
 | [] => true
 | x :: l => allE x && allL l
end
def mayE (e : Ex) : Bool := decide (depthE e ≤ 16) && allE e
def noEx : Ex → Bool
 | .mk op lit head name hi lo args => decide (op = 0) && decide (lit = zLt) && decide (head = strE) && decide (name = strE) && decide (hi = 0) && decide (lo = 0) && args.isEmpty
mutual
def mayS : St → Nat → Bool
 | .mk kind head name e thn els, deep =>
  if kind = 1 then thn.isEmpty && els.isEmpty && (decide (head = strE) || nameB head) && nameB name && mayE e
  else if kind = 2 then decide (head = strE) && decide (name = strE) && mayE e && (thn.isEmpty || (decide (deep + 1 ≤ 8) && decide (thn.length ≤ 32) && mayL thn (deep + 1))) && (els.isEmpty || (decide (deep + 1 ≤ 8) && decide (els.length ≤ 32) && mayL els (deep + 1)))
  else if kind = 3 then thn.isEmpty && els.isEmpty && decide (head = strE) && nameB name && noEx e
  else if kind = 4 then thn.isEmpty && els.isEmpty && decide (head = strE) && decide (name = strE) && noEx e
  else if kind = 5 then thn.isEmpty && els.isEmpty && decide (head = strE) && decide (name = strE) && mayE e
  else if kind = 6 ∨ kind = 7 then thn.isEmpty && els.isEmpty && nameB head && decide (name = strE) && noEx e
  else false
def mayL : List St → Nat → Bool
 | [], _ => true
 | s :: l, deep => mayS s deep && mayL l deep
end
def mayBlk (l : List St) (deep : Nat) : Bool := l.isEmpty || (decide (deep ≤ 8) && decide (l.length ≤ 32) && mayL l deep)
theorem allL_all : ∀ l : List Ex, allL l = l.all allE
 | [] => rfl
 | x :: l => by simp only [allL, List.all_cons, allL_all l]
def fdB (f : Fd) : Bool := nameB f.1 && widthB f.2
def hdB (h : Hd) : Bool := nameB h.name && decide (1 ≤ h.fields.length ∧ h.fields.length ≤ 16) && h.fields.all fdB
def acB (a : Ac) : Bool := nameB a.name && decide (a.params.length ≤ 8) && a.params.all fdB && mayBlk a.body 1
/-! What names mean. -/
def headerI (p : Pg) (s : ByteArray) : Int := findI (p.headers.map Hd.name) s
def fieldsI (l : List Fd) (s : ByteArray) : Int := findI (l.map Prod.fst) s
def fieldI (p : Pg) (h : Int) (s : ByteArray) : Int := if h < 0 then -1 else (p.headers[h.toNat]?).elim (-1) fun x => fieldsI x.fields s
def metaI (p : Pg) (s : ByteArray) : Int := fieldsI p.metas s
def paramI (p : Pg) (a : Int) (s : ByteArray) : Int := if a < 0 then -1 else (p.actions[a.toNat]?).elim (-1) fun x => fieldsI x.params s
end Go.Proofs.YtmfpbahifhndjaaGreat
/-! Printed by gen_ast.py: slices.IndexFunc and ContainsFunc, over each element type. -/
namespace Go.Proofs.YtmfpbahifhndjaaGreat
open Go.RowKit
def idxA {α : Type} (p : α → Bool) (xs : List α) : Int := match xs.findIdx? p with
 | some i => (i : Int)
 | none => -1
theorem idxA_at {α : Type} {p : α → Bool} {xs : List α} {k : Nat} (hk : k < xs.length) (h : (xs.take k).any p = false) (hp : p xs[k] = true) : idxA p xs = (k : Int) := by
 have : xs.findIdx? p = some k := by
  rw [List.findIdx?_eq_some_iff_getElem]
  refine ⟨hk, hp, fun j hj => ?_⟩
  have := List.any_eq_false.1 h xs[j] (List.mem_take_iff_getElem.2 ⟨j, by omega, rfl⟩)
  exact this
 rw [idxA, this]
theorem idxA_no {α : Type} {p : α → Bool} {xs : List α} (h : xs.any p = false) : idxA p xs = -1 := by
 have : xs.findIdx? p = none := by
  rw [List.findIdx?_eq_none_iff]
  intro x hx
  simpa using List.any_eq_false.1 h x hx
 rw [idxA, this]
theorem idxA_nonneg {α : Type} (p : α → Bool) (xs : List α) : decide (0 ≤ idxA p xs) = xs.any p := by
 unfold idxA
 cases h : xs.findIdx? p with
 | none =>
  rw [List.findIdx?_eq_none_iff] at h
  have : xs.any p = false := List.any_eq_false.2 fun x hx => by simp [h x hx]
  rw [this]; rfl
 | some i =>
  rw [List.findIdx?_eq_some_iff_getElem] at h
  obtain ⟨hi, hp, -⟩ := h
  rw [any_of_getElem hi hp]
  simp
theorem idxA_name {α : Type} (f : α → ByteArray) (s : ByteArray) (xs : List α) : idxA (fun x => decide (f x = s)) xs = findI (xs.map f) s := by
 induction xs with
 | nil => rfl
 | cons x l ih =>
  unfold idxA findI at *
  simp only [List.findIdx?_cons, List.map_cons, List.mem_cons]
  by_cases e : f x = s
  ·simp [e, idx]
  ·have e' : ¬ s = f x := fun h => e h.symm
   simp only [e, e', decide_false, false_or, idx, if_false] at ih ⊢
   cases hf : l.findIdx? (fun x => decide (f x = s)) with
   | none =>
    simp only [hf] at ih
    by_cases hm : s ∈ List.map f l
    ·rw [if_pos hm] at ih; exact absurd ih (by omega)
    ·rw [if_neg hm]; simp
   | some i =>
    simp only [hf] at ih
    by_cases hm : s ∈ List.map f l
    ·rw [if_pos hm] at ih ⊢; simp; omega
    ·rw [if_neg hm] at ih; exact absurd ih (by omega)
def aggV (cs : List Value) : Value := .agg cs.toArray
/-- A function value that answers p of each of xs, in every world in which all that lies in w lies as it lay. -/
def FnR {α : Type} (vl : List Value → Value) (k B : Nat) (R : CR α) (fid : Nat) (lb : Array Value) (p : α → Bool) (xs : List α) (w : World) : Prop :=
 ∀ (i : Nat) (x : α) (cs : List Value) (W : World), xs[i]? = some x → Below w.heap.size w W → R W B cs x → cs.length = k → Calls Tryz.prog fid (#[vl cs] ++ lb) W fun e w' => e = .returned (.bool (p x)) ∧ Below W.heap.size W w'

set_option maxHeartbeats 1000000 in
theorem indexFunc_Header {α : Type} {R : CR α} (sR : Sta R) {B : Nat} (fid : Nat) (lb : Array Value) (eg : ∀ args w, (callFunc fid args).run Tryz.prog w = .ok (.enter fid args) w) (p : α → Bool) (A : Option Addr) (cap : Nat) (xs : List α) (w : World) (hB : B ≤ w.heap.size) (h : Sl 2 R w B A xs) (hf : FnR aggV 2 B R fid lb p xs w) :
  Calls Tryz.prog 136 #[.slice A xs.length cap, .func (.func fid) #[] lb] w fun e w' => e = .returned (.int .i64 (idxA p xs)) ∧ Below w.heap.size w w' := by
 have hl := h.len
 replace hf := hide hf
 go_enter Tryz.func136, Tryz.ntmps136
 go_wp2
 go_loopw [5, 8] (fun _ i wr => ∃ k : Nat, k ≤ xs.length ∧ i = .int .i64 k ∧ Hid ((xs.take k).any p = false) ∧ Hid (Below w.heap.size w wr)) (fun _ i _ => xs.length - (intOf i).toNat)
 case atStart => exact ⟨0, Nat.zero_le _, rfl, hide (by simp), hide (Below.refl _ _)⟩
 case round =>
  obtain ⟨k, hk, rfl, hc, hbr⟩ := hrel
  have hcw := bcell' hbr.out
  by_cases hlt : k < xs.length
  ·obtain ⟨b, o, ecs, rfl, hb0, hel, hcell, hr⟩ := h.2 k _ (List.getElem?_eq_getElem hlt)
   have hb : b < w.heap.size := by omega
   match ecs, hel with
   | [a0, a1], _ =>
    have x0 : w.cell? ⟨b, o + k * 2, none⟩ = some a0 := by simpa using hcell 0 a0 rfl
    have x1 : w.cell? ⟨b, o + k * 2 + 1, none⟩ = some a1 := by simpa using hcell 1 a1 rfl
    have hltz : (k : Int) < (xs.length : Int) := by omega
    have hcall : Calls Tryz.prog fid (#[.agg #[a0, a1]] ++ lb) wr _ := hf.out k xs[k] [a0, a1] wr (List.getElem?_eq_getElem hlt) hbr.out (sR.keep hr fun q hq => hbr.out.cell (Nat.lt_of_lt_of_le hq hB)) rfl
    clear h hcell hr
    cases hp : p xs[k] with
    | true =>
     rw [hp] at hcall
     have hv := hide (idxA_at hlt hc.out hp)
     clear hp
     go_wp2_with (go_at_fn fid; refine hcall.mono ?_; rintro e w' ⟨rfl, hb1⟩)
     go_ret
     exact ⟨ret_int hv.out.symm, hbr.out.trans (hb1.mono hbr.out.size)⟩
    | false =>
     rw [hp] at hcall
     have hv := hide (any_take_succ hlt hc.out hp)
     clear hp
     go_wp2_with (go_at_fn fid; refine hcall.mono ?_; rintro e w' ⟨rfl, hb1⟩)
     go_roundw
     case rel => exact ⟨k + 1, by omega, by go_num, hv, hide (hbr.out.trans (hb1.mono hbr.out.size))⟩
     case measure => simp [intOf]; omega
  ·have hv := hide (idxA_no (any_of_take hk hlt hc.out))
   go_wp2
   go_ret
   exact ⟨ret_int hv.out.symm, hbr.out⟩
set_option maxHeartbeats 1000000 in
theorem indexFunc_Field {α : Type} {R : CR α} (sR : Sta R) {B : Nat} (fid : Nat) (lb : Array Value) (eg : ∀ args w, (callFunc fid args).run Tryz.prog w = .ok (.enter fid args) w) (p : α → Bool) (A : Option Addr) (cap : Nat) (xs : List α) (w : World) (hB : B ≤ w.heap.size) (h : Sl 2 R w B A xs) (hf : FnR aggV 2 B R fid lb p xs w) :
  Calls Tryz.prog 138 #[.slice A xs.length cap, .func (.func fid) #[] lb] w fun e w' => e = .returned (.int .i64 (idxA p xs)) ∧ Below w.heap.size w w' := by
 have hl := h.len
 replace hf := hide hf
 go_enter Tryz.func138, Tryz.ntmps138
 go_wp2
 go_loopw [5, 8] (fun _ i wr => ∃ k : Nat, k ≤ xs.length ∧ i = .int .i64 k ∧ Hid ((xs.take k).any p = false) ∧ Hid (Below w.heap.size w wr)) (fun _ i _ => xs.length - (intOf i).toNat)
 case atStart => exact ⟨0, Nat.zero_le _, rfl, hide (by simp), hide (Below.refl _ _)⟩
 case round =>
  obtain ⟨k, hk, rfl, hc, hbr⟩ := hrel
  have hcw := bcell' hbr.out
  by_cases hlt : k < xs.length
  ·obtain ⟨b, o, ecs, rfl, hb0, hel, hcell, hr⟩ := h.2 k _ (List.getElem?_eq_getElem hlt)
   have hb : b < w.heap.size := by omega
   match ecs, hel with
   | [a0, a1], _ =>
    have x0 : w.cell? ⟨b, o + k * 2, none⟩ = some a0 := by simpa using hcell 0 a0 rfl
    have x1 : w.cell? ⟨b, o + k * 2 + 1, none⟩ = some a1 := by simpa using hcell 1 a1 rfl
    have hltz : (k : Int) < (xs.length : Int) := by omega
    have hcall : Calls Tryz.prog fid (#[.agg #[a0, a1]] ++ lb) wr _ := hf.out k xs[k] [a0, a1] wr (List.getElem?_eq_getElem hlt) hbr.out (sR.keep hr fun q hq => hbr.out.cell (Nat.lt_of_lt_of_le hq hB)) rfl
    clear h hcell hr
    cases hp : p xs[k] with
    | true =>
     rw [hp] at hcall
     have hv := hide (idxA_at hlt hc.out hp)
     clear hp
     go_wp2_with (go_at_fn fid; refine hcall.mono ?_; rintro e w' ⟨rfl, hb1⟩)
     go_ret
     exact ⟨ret_int hv.out.symm, hbr.out.trans (hb1.mono hbr.out.size)⟩
    | false =>
     rw [hp] at hcall
     have hv := hide (any_take_succ hlt hc.out hp)
     clear hp
     go_wp2_with (go_at_fn fid; refine hcall.mono ?_; rintro e w' ⟨rfl, hb1⟩)
     go_roundw
     case rel => exact ⟨k + 1, by omega, by go_num, hv, hide (hbr.out.trans (hb1.mono hbr.out.size))⟩
     case measure => simp [intOf]; omega
  ·have hv := hide (idxA_no (any_of_take hk hlt hc.out))
   go_wp2
   go_ret
   exact ⟨ret_int hv.out.symm, hbr.out⟩
set_option maxHeartbeats 1000000 in
theorem indexFunc_Expr {α : Type} {R : CR α} (sR : Sta R) {B : Nat} (fid : Nat) (lb : Array Value) (eg : ∀ args w, (callFunc fid args).run Tryz.prog w = .ok (.enter fid args) w) (p : α → Bool) (A : Option Addr) (cap : Nat) (xs : List α) (w : World) (hB : B ≤ w.heap.size) (h : Sl 9 R w B A xs) (hf : FnR aggV 9 B R fid lb p xs w) :
  Calls Tryz.prog 135 #[.slice A xs.length cap, .func (.func fid) #[] lb] w fun e w' => e = .returned (.int .i64 (idxA p xs)) ∧ Below w.heap.size w w' := by
 have hl := h.len
 replace hf := hide hf
 go_enter Tryz.func135, Tryz.ntmps135
 go_wp2
 go_loopw [5, 8] (fun _ i wr => ∃ k : Nat, k ≤ xs.length ∧ i = .int .i64 k ∧ Hid ((xs.take k).any p = false) ∧ Hid (Below w.heap.size w wr)) (fun _ i _ => xs.length - (intOf i).toNat)
 case atStart => exact ⟨0, Nat.zero_le _, rfl, hide (by simp), hide (Below.refl _ _)⟩
 case round =>
  obtain ⟨k, hk, rfl, hc, hbr⟩ := hrel
  have hcw := bcell' hbr.out
  by_cases hlt : k < xs.length
  ·obtain ⟨b, o, ecs, rfl, hb0, hel, hcell, hr⟩ := h.2 k _ (List.getElem?_eq_getElem hlt)
   have hb : b < w.heap.size := by omega
   match ecs, hel with
   | [a0, a1, a2, a3, a4, a5, a6, a7, a8], _ =>
    have x0 : w.cell? ⟨b, o + k * 9, none⟩ = some a0 := by simpa using hcell 0 a0 rfl
    have x1 : w.cell? ⟨b, o + k * 9 + 1, none⟩ = some a1 := by simpa using hcell 1 a1 rfl
    have x2 : w.cell? ⟨b, o + k * 9 + 2, none⟩ = some a2 := by simpa using hcell 2 a2 rfl
    have x3 : w.cell? ⟨b, o + k * 9 + 3, none⟩ = some a3 := by simpa using hcell 3 a3 rfl
    have x4 : w.cell? ⟨b, o + k * 9 + 4, none⟩ = some a4 := by simpa using hcell 4 a4 rfl
    have x5 : w.cell? ⟨b, o + k * 9 + 5, none⟩ = some a5 := by simpa using hcell 5 a5 rfl
    have x6 : w.cell? ⟨b, o + k * 9 + 6, none⟩ = some a6 := by simpa using hcell 6 a6 rfl
    have x7 : w.cell? ⟨b, o + k * 9 + 7, none⟩ = some a7 := by simpa using hcell 7 a7 rfl
    have x8 : w.cell? ⟨b, o + k * 9 + 8, none⟩ = some a8 := by simpa using hcell 8 a8 rfl
    have hltz : (k : Int) < (xs.length : Int) := by omega
    have hcall : Calls Tryz.prog fid (#[.agg #[a0, a1, a2, a3, a4, a5, a6, a7, a8]] ++ lb) wr _ := hf.out k xs[k] [a0, a1, a2, a3, a4, a5, a6, a7, a8] wr (List.getElem?_eq_getElem hlt) hbr.out (sR.keep hr fun q hq => hbr.out.cell (Nat.lt_of_lt_of_le hq hB)) rfl
    clear h hcell hr
    cases hp : p xs[k] with
    | true =>
     rw [hp] at hcall
     have hv := hide (idxA_at hlt hc.out hp)
     clear hp
     go_wp2_with (go_at_fn fid; refine hcall.mono ?_; rintro e w' ⟨rfl, hb1⟩)
     go_ret
     exact ⟨ret_int hv.out.symm, hbr.out.trans (hb1.mono hbr.out.size)⟩
    | false =>
     rw [hp] at hcall
     have hv := hide (any_take_succ hlt hc.out hp)
     clear hp
     go_wp2_with (go_at_fn fid; refine hcall.mono ?_; rintro e w' ⟨rfl, hb1⟩)
     go_roundw
     case rel => exact ⟨k + 1, by omega, by go_num, hv, hide (hbr.out.trans (hb1.mono hbr.out.size))⟩
     case measure => simp [intOf]; omega
  ·have hv := hide (idxA_no (any_of_take hk hlt hc.out))
   go_wp2
   go_ret
   exact ⟨ret_int hv.out.symm, hbr.out⟩
set_option maxHeartbeats 1000000 in
theorem containsFunc_Expr {α : Type} {R : CR α} (sR : Sta R) {B : Nat} (fid : Nat) (lb : Array Value) (eg : ∀ args w, (callFunc fid args).run Tryz.prog w = .ok (.enter fid args) w) (p : α → Bool) (A : Option Addr) (cap : Nat) (xs : List α) (w : World) (hB : B ≤ w.heap.size) (h : Sl 9 R w B A xs) (hf : FnR aggV 9 B R fid lb p xs w) :
  Calls Tryz.prog 121 #[.slice A xs.length cap, .func (.func fid) #[] lb] w fun e w' => e = .returned (.bool (xs.any p)) ∧ Below w.heap.size w w' := by
 have hv := hide (idxA_nonneg p xs)
 replace hf := hide hf
 go_enter Tryz.func121, Tryz.ntmps121
 go_wp2_with (go_at_call 135; refine (indexFunc_Expr sR fid lb eg p A cap xs _ hB h hf.out).mono ?_; rintro e w' ⟨rfl, hb⟩)
 go_ret
 exact ⟨ret_b hv.out, hb⟩
end Go.Proofs.YtmfpbahifhndjaaGreat
/-! Printed by gen_ast.py: ast.all of each type. -/
namespace Go.Proofs.YtmfpbahifhndjaaGreat
open Go.RowKit
theorem enters_all_Expr : ∀ args w, (callFunc 122 args).run Tryz.prog w = .ok (.enter 122 args) w := enters_of Tryz.func122 (by kernel_rfl) rfl
set_option maxHeartbeats 1000000 in
theorem all_Expr {α : Type} {R : CR α} (sR : Sta R) {B : Nat} (fid : Nat) (lb : Array Value) (eg : ∀ args w, (callFunc fid args).run Tryz.prog w = .ok (.enter fid args) w) (p : α → Bool) (A : Option Addr) (cap : Nat) (xs : List α) (w : World) (hB : B ≤ w.heap.size) (h : Sl 9 R w B A xs) (hf : FnR aggV 9 B R fid lb p xs w) :
  Calls Tryz.prog 103 #[.slice A xs.length cap, .func (.func fid) #[] lb] w fun e w' => e = .returned (.bool (xs.all p)) ∧ Below w.heap.size w w' := by
 obtain ⟨wb, hwb, hsz, hw, hcb, -⟩ := box1 w #[.func (.func fid) #[] lb] 135
 have hg : FnR aggV 9 B R 122 #[.pointer (some ⟨w.heap.size, 0, none⟩)] (fun x => !p x) xs wb := fun i x cs W hx hb hr hel => by
  have hbw := hw.trans (hb.mono (by omega))
  match cs, hel with
  | [a0, a1, a2, a3, a4, a5, a6, a7, a8], _ =>
   obtain ⟨wc, hwc, hzc, hc, hcc, -⟩ := box1 W #[a0, a1, a2, a3, a4, a5, a6, a7, a8] 65
   have hBW : B ≤ W.heap.size := Nat.le_trans hB hbw.size
   have hcall : Calls Tryz.prog fid (#[.agg #[a0, a1, a2, a3, a4, a5, a6, a7, a8]] ++ lb) wc _ := hf i x [a0, a1, a2, a3, a4, a5, a6, a7, a8] wc hx (hbw.trans (hc.mono hbw.size)) (sR.keep hr fun q hq => hc.cell (Nat.lt_of_lt_of_le hq hBW)) rfl
   have hbox : wc.cell? ⟨w.heap.size, 0, none⟩ = some (.func (.func fid) #[] lb) := (hc.cell (p := ⟨w.heap.size, 0, none⟩) (by show w.heap.size < _; have := hb.size; omega)).trans ((hb.cell (p := ⟨w.heap.size, 0, none⟩) (by show w.heap.size < _; omega)).trans (hcb 0))
   have y0 : wc.cell? ⟨W.heap.size, 0, none⟩ = some a0 := hcc 0
   have y1 : wc.cell? ⟨W.heap.size, 1, none⟩ = some a1 := hcc 1
   have y2 : wc.cell? ⟨W.heap.size, 2, none⟩ = some a2 := hcc 2
   have y3 : wc.cell? ⟨W.heap.size, 3, none⟩ = some a3 := hcc 3
   have y4 : wc.cell? ⟨W.heap.size, 4, none⟩ = some a4 := hcc 4
   have y5 : wc.cell? ⟨W.heap.size, 5, none⟩ = some a5 := hcc 5
   have y6 : wc.cell? ⟨W.heap.size, 6, none⟩ = some a6 := hcc 6
   have y7 : wc.cell? ⟨W.heap.size, 7, none⟩ = some a7 := hcc 7
   have y8 : wc.cell? ⟨W.heap.size, 8, none⟩ = some a8 := hcc 8
   replace hc := hide hc
   clear hf hr hwb hcc
   show Calls _ _ (#[.agg #[a0, a1, a2, a3, a4, a5, a6, a7, a8], .pointer (some ⟨w.heap.size, 0, none⟩)]) _ _
   go_enter Tryz.func122, Tryz.ntmps122
   go_wp2_with (go_at_fn fid; refine hcall.mono ?_; rintro e w' ⟨rfl, hb1⟩)
   go_ret
   exact ⟨rfl, hc.out.trans (hb1.mono (by omega))⟩
 have hv := hide (show (!xs.any fun x => !p x) = xs.all p from by rw [List.all_eq_not_any_not])
 have hS := hide (h.below sR (hw.mono hB))
 replace hg := hide hg
 replace hf := hide hf
 clear hcb
 go_enter Tryz.func103, Tryz.ntmps103
 go_wp2_with (go_at_call 121; refine (containsFunc_Expr sR _ _ enters_all_Expr _ _ _ _ _ (by omega) hS.out hg.out).mono ?_; rintro e w' ⟨rfl, hb⟩)
 go_ret
 exact ⟨ret_b hv.out, hw.trans (hb.mono (by omega))⟩
end Go.Proofs.YtmfpbahifhndjaaGreat
/-! Layer 3: names and keywords (the part of DnB, DnC, DnE that speaks of them). -/
namespace Go.Proofs.YtmfpbahifhndjaaGreat
open Go.RowKit
set_option maxHeartbeats 400000 in
theorem isDigit_any (c : Int) (w : World) : Calls Tryz.prog 132 #[.int .u8 c] w fun e w' => e = .returned (.bool (digitB c)) ∧ w = w' := by
 go_enter Tryz.func132, Tryz.ntmps132
 go_wp2
 all_goals
  go_ret
  exact ⟨ret_bool (by simp [digitB]; omega), rfl⟩
set_option maxHeartbeats 400000 in
theorem isWord_any (c : Int) (w : World) : Calls Tryz.prog 140 #[.int .u8 c] w fun e w' => e = .returned (.bool (wordB c)) ∧ w = w' := by
 go_enter Tryz.func140, Tryz.ntmps140
 go_wp2_with (go_at_call 132; refine (isDigit_any _ _).mono ?_; rintro e w' ⟨rfl, rfl⟩)
 all_goals
  go_ret
  refine ⟨ret_bool ?_, rfl⟩
  simp only [digitB, decide_eq_true_eq, decide_eq_false_iff_not] at *
  simp [wordB, digitB, letterB]; try omega
set_option maxHeartbeats 400000 in
theorem word_any (s : ByteArray) (w : World) (hs : s.size ≤ maxLen) :
  Calls Tryz.prog 131 #[.string s] w fun e w' => e = .returned (.string (s.extract 0 (wlen s))) ∧ w = w' := by
 have hl : s.size ≤ 9223372036854775807 := hs
 go_enter Tryz.func131, Tryz.ntmps131
 go_wp2
 go_loop [3] (fun i => ∃ k : Nat, k ≤ s.size ∧ i = .int .i64 k ∧ k ≤ wlen s) (fun i => s.size - (intOf i).toNat)
 case atStart => exact ⟨0, Nat.zero_le _, rfl, Nat.zero_le _⟩
 case round =>
  obtain ⟨k, hk, rfl, hc⟩ := hrel
  by_cases hlt : k < s.size
  ·go_wp2_with (go_at_call 140; refine (isWord_any _ _).mono ?_; rintro e w' ⟨rfl, rfl⟩)
   ·go_round
    case rel => exact ⟨k + 1, by omega, by go_num, wlen_succ hlt hc (by assumption)⟩
    case measure => simp [intOf]; omega
   ·go_ret
    rw [wlen_stop hlt hc (by assumption)]
    exact ⟨rfl, rfl⟩
  ·go_wp2_with (go_at_call 140; refine (isWord_any _ _).mono ?_; rintro e w' ⟨rfl, rfl⟩)
   go_ret
   rw [wlen_end hk hlt hc]
   exact ⟨rfl, rfl⟩
set_option maxHeartbeats 400000 in
theorem isKeyword_any (s : ByteArray) (m : Int) (w : World) (hs : s.size < 4294967281) (hm : w.cell? ⟨0, 0, none⟩ = some (.int .i64 m)) :
  Calls Tryz.prog 133 #[.string s] w fun e w' => e = .returned (.bool (kwB s)) ∧ w = w' := by
 go_enter Tryz.func133, Tryz.ntmps133
 by_cases h0 : s.toList = []
 ·have h0' : s.toList.isEmpty = true := by simp [h0]
  go_wp2
  go_ret
  exact ⟨ret_b (kwB_empty h0).symm, rfl⟩
 ·have h0' : s.toList.isEmpty = false := by simp [h0]
  go_wp2_with fail
  refine (Tryz.strings_Contains _ _ m _ hs hm).mono ?_
  rintro e w' ⟨rfl, rfl⟩
  cases hb : Go.Lib.contains s.data.toList (ByteArray.mk #[32]).data.toList with
  | true =>
   go_wp2_with fail
   go_ret
   exact ⟨ret_b (kwB_blank hb).symm, rfl⟩
  | false =>
   go_wp2_with fail
   refine (Tryz.strings_Contains _ _ m _ (by decide +kernel) hm).mono ?_
   rintro e w' ⟨rfl, rfl⟩
   rw [kwB_eq s _ (by decide +kernel) h0 (by assumption)]
   go_wp2_with fail
   go_ret
   exact ⟨rfl, rfl⟩
set_option maxHeartbeats 1000000 in
theorem isName_any (s : ByteArray) (m : Int) (w : World) (hs : s.size ≤ maxLen) (hm : w.cell? ⟨0, 0, none⟩ = some (.int .i64 m)) :
  Calls Tryz.prog 117 #[.string s] w fun e w' => e = .returned (.bool (nameB s)) ∧ w = w' := by
 have hn := hide (nameB_eq s)
 go_enter Tryz.func117, Tryz.ntmps117
 cases ha : ((s.extract 0 (wlen s)).toList == s.toList) with
 | false =>
  go_wp2_with (go_at_call 131; refine (word_any _ _ hs).mono ?_; rintro e w' ⟨rfl, rfl⟩)
  go_ret
  exact ⟨ret_b (by rw [hn.out, ha]; rfl), rfl⟩
 | true =>
  by_cases h0 : 0 < s.size
  ·have h0' : s.toList.isEmpty = false := isEmpty_false h0
   by_cases h16 : s.size ≤ 16
   ·cases hd : digitB (s[0].toNat : Nat) with
    | true =>
     go_wp2_with (first | (go_at_call 131; refine (word_any _ _ hs).mono ?_; rintro e w' ⟨rfl, rfl⟩) | (go_at_call 132; refine (isDigit_any _ _).mono ?_; rintro e w' ⟨rfl, rfl⟩))
     go_ret
     exact ⟨ret_b (by rw [hn.out, headD_eq h0, hd]; simp), rfl⟩
    | false =>
     go_wp2_with (first | (go_at_call 131; refine (word_any _ _ hs).mono ?_; rintro e w' ⟨rfl, rfl⟩) | (go_at_call 132; refine (isDigit_any _ _).mono ?_; rintro e w' ⟨rfl, rfl⟩) | (go_at_call 133; refine (isKeyword_any _ m _ (by omega) hm).mono ?_; rintro e w' ⟨rfl, rfl⟩))
     go_ret
     exact ⟨ret_b (by rw [hn.out, headD_eq h0, hd, ha, h0']; simp [h16]), rfl⟩
   ·go_wp2_with (go_at_call 131; refine (word_any _ _ hs).mono ?_; rintro e w' ⟨rfl, rfl⟩)
    go_ret
    exact ⟨ret_b (by rw [hn.out]; simp [h16]), rfl⟩
  ·have h0' : s.toList.isEmpty = true := isEmpty_true h0
   go_wp2_with (go_at_call 131; refine (word_any _ _ hs).mono ?_; rintro e w' ⟨rfl, rfl⟩)
   go_ret
   exact ⟨ret_b (by rw [hn.out, h0']; simp), rfl⟩
end Go.Proofs.YtmfpbahifhndjaaGreat
/-! Layer 4's small questions: widths, targets, names that are asked for, fields. -/
namespace Go.Proofs.YtmfpbahifhndjaaGreat
open Go.RowKit
theorem lit_iff {s : ByteArray} (l : List UInt8) : s = ByteArray.mk l.toArray ↔ s.toList = l := by
 rw [ByteArray.toList_eq]
 constructor
 ·intro h; rw [h]
 ·intro h; rw [← h]
theorem emp_iff {s : ByteArray} : s = strE ↔ s.toList = [] := lit_iff _
set_option maxHeartbeats 400000 in
theorem isWidth_any (n : Int) (w : World) : Calls Tryz.prog 118 #[.int .i64 n] w fun e w' => e = .returned (.bool (widthB n)) ∧ w = w' := by
 go_enter Tryz.func118, Tryz.ntmps118
 by_cases h1 : 1 ≤ n
 ·by_cases h2 : n ≤ 128
  ·go_wp2
   go_ret
   exact ⟨ret_b (by simp [widthB, h1, h2]), rfl⟩
  ·go_wp2
   go_ret
   exact ⟨ret_b (by simp [widthB, h2]), rfl⟩
 ·go_wp2
  go_ret
  exact ⟨ret_b (by simp [widthB]; omega), rfl⟩
set_option maxHeartbeats 1000000 in
theorem named_any (s : ByteArray) (b : Bool) (m : Int) (w : World) (hs : s.size ≤ maxLen) (hm : w.cell? ⟨0, 0, none⟩ = some (.int .i64 m)) :
  Calls Tryz.prog 99 #[.string s, .bool b] w fun e w' => e = .returned (.bool (namedB s b)) ∧ w = w' := by
 go_enter Tryz.func99, Tryz.ntmps99
 cases b with
 | true =>
  cases hn : nameB s with
  | true =>
   have hv := hide hn
   have hc := isName_any s m w hs hm
   rw [hn] at hc
   clear hn
   go_wp2_with (go_at_call 117; refine hc.mono ?_; rintro e w' ⟨rfl, rfl⟩)
   go_ret
   exact ⟨ret_b (by simp [namedB, hv.out]), rfl⟩
  | false =>
   have hv := hide hn
   have hc := isName_any s m w hs hm
   rw [hn] at hc
   clear hn
   go_wp2_with (go_at_call 117; refine hc.mono ?_; rintro e w' ⟨rfl, rfl⟩)
   go_ret
   exact ⟨ret_b (by simp [namedB, hv.out]), rfl⟩
 | false =>
  by_cases h1 : s = strE
  ·have e1 := emp_iff.1 h1
   have hv := hide (show namedB s false = true from by simp [namedB, h1])
   clear h1
   go_wp2
   go_ret
   exact ⟨ret_b hv.out.symm, rfl⟩
  ·have e1 := fun h => h1 (emp_iff.2 h)
   have hv := hide (show namedB s false = false from by simp [namedB, h1])
   clear h1
   go_wp2
   go_ret
   exact ⟨ret_b (by rw [hv.out]; simpa using e1), rfl⟩
end Go.Proofs.YtmfpbahifhndjaaGreat

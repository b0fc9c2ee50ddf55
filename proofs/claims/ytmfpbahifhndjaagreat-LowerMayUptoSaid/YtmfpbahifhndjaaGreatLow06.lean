import Derived.Test.YtmfpbahifhndjaaGreatLow03
import Derived.Test.YtmfpbahifhndjaaGreatLow04
import Derived.Test.YtmfpbahifhndjaaGreatLow05
set_option linter.all false
/-! Lowered programs, plain: which may be, by the program's functions and by the document's. -/
set_option linter.all false
namespace Go.Proofs.YtmfpbahifhndjaaGreat
open Go.RowKit
/-- Lowered programs, and which may be: as the program tells it (L), and as the document does (R). -/
structure Nd where
 op : Int
 w : Int
 a : Int
 b : Int
 hi : Int
 lo : Int
structure Ins where
 kind : Int
 a : Int
 b : Int
 e : List Nd
 to : Int
structure Pt where
 vh : Int
 vl : Int
 mh : Int
 ml : Int
structure Br where
 pats : List Pt
 to : Int
structure Stp where
 takes : List Int
 keys : List (List Nd)
 brs : List Br
 to : Int
structure Lac where
 params : List Int
 body : List Ins
structure Rn where
 act : Int
 args : List (Int × Int)
structure Ltb where
 keys : List (List Nd)
 kinds : List Int
 acts : List Int
 run : Rn
structure Lp where
 heads : List (List Int)
 metas : List Int
 steps : List Stp
 acts : List Lac
 tabs : List Ltb
 control : List Ins
 emit : List Int
 nh : List ByteArray
 nf : List (List ByteArray)
 nm : List ByteArray
 na : List ByteArray
 nt : List ByteArray
/-- One of some, by a number. -/
def nth {α : Type} (l : List α) (i : Int) : Option α := if 0 ≤ i then l[i.toNat]? else none
def inB (n : Nat) (i : Int) : Bool := decide (0 ≤ i) && decide (i < n)
theorem nth_in {α : Type} (l : List α) (i : Int) : (nth l i).isSome = inB l.length i := by
 unfold nth inB
 by_cases h : 0 ≤ i
 ·obtain ⟨k, rfl⟩ := Int.eq_ofNat_of_zero_le h
  simp only [if_pos h, Int.toNat_natCast, h, decide_true, Bool.true_and]
  by_cases hk : k < l.length
  ·rw [List.getElem?_eq_getElem hk]; simp [hk]
  ·rw [List.getElem?_eq_none (by omega)]; simp [hk]
 ·simp [h]
def at0 (l : List Int) (i : Int) : Int := (nth l i).getD 0
def fitN (w hi lo : Int) : Bool := fitsB w (0, hi, lo)
/-- The width of a node that takes nothing. -/
def givP (p : Lp) (act op a b : Int) : Int :=
 if op = 2 then at0 ((nth p.heads a).getD []) b
 else if op = 3 then at0 p.metas a
 else if op = 4 then at0 (((nth p.acts act).map Lac.params).getD []) a
 else if op = 5 then (if a = 0 then 9 else 0)
 else if op = 6 then (if inB p.heads.length a = true then 1 else 0) else 0
def givL (p : Lp) (act : Int) (n : Nd) : Int := if n.op = 1 then (if n.a = 0 ∧ fitN n.w n.hi n.lo = true then n.w else 0) else givP p act n.op n.a n.b
def givR (p : Lp) (act : Int) (n : Nd) : Int :=
 if n.op = 1 then (if n.a = 0 ∧ n.b = 0 ∧ widthB n.w = true ∧ fitN n.w n.hi n.lo = true then n.w else 0)
 else if ¬ (n.hi = 0 ∧ n.lo = 0) ∨ (n.op ≠ 2 ∧ n.b ≠ 0) then 0 else givP p act n.op n.a n.b
/-- A node that takes one value. -/
def oneOp (op : Int) : Bool := decide (op = 7) || decide (op = 8) || decide (op = 9) || decide (op = 13) || decide (op = 14)
def sngL (n : Nd) (w : Int) : Int := if n.op = 7 ∨ n.op = 8 then w else if n.op = 13 ∨ n.op = 14 then (if 0 ≤ n.a ∧ n.a ≤ 127 then w else 0) else (if n.b < 0 ∨ n.a < n.b ∨ w ≤ n.a then 0 else n.a - n.b + 1)
def sngR (n : Nd) (w : Int) : Int := if n.op = 7 ∨ n.op = 8 then (if n.a = 0 ∧ n.b = 0 then w else 0) else if n.op = 13 ∨ n.op = 14 then (if n.b = 0 ∧ 0 ≤ n.a ∧ n.a ≤ 127 then w else 0) else (if 0 ≤ n.b ∧ n.b ≤ n.a ∧ n.a < w then n.a - n.b + 1 else 0)
def prL (op v w : Int) : Int := if op = 10 then v + w else if 20 < op ∨ v ≠ w then 0 else if 18 ≤ op then 1 else w
def prR (n : Nd) (v w : Int) : Int := if n.a ≠ 0 ∨ n.b ≠ 0 then 0 else if n.op = 10 then v + w else if v ≠ w then 0 else if n.op = 18 ∨ n.op = 19 ∨ n.op = 20 then 1 else if 11 ≤ n.op ∧ n.op ≤ 17 then v else 0
def namedO (op : Int) : Bool := decide (op = 2) || decide (op = 9)
def oneO (op : Int) : Bool := namedO op || decide (op = 3) || decide (op = 4) || decide (op = 6) || decide (op = 13) || decide (op = 14)
def asksB (n : Nd) : Bool := (decide (n.op = 1) || (decide (n.hi = 0) && decide (n.lo = 0))) && (oneO n.op || decide (n.a = 0)) && (namedO n.op || decide (n.b = 0))
/-- What a node leaves of a stack (its last value first), and the width that it must have; none: there is too little on it. -/
def doesL (p : Lp) (act : Int) (st : List Int) (n : Nd) : Option (Int × List Int) :=
 if n.op ≤ 6 then some (givL p act n, st) else match st with
 | [] => none
 | w :: st => if oneOp n.op = true then some (sngL n w, st) else match st with
  | [] => none
  | v :: st => some (prL n.op v w, st)
def nodeL (p : Lp) (act : Int) (st : List Int) (n : Nd) : Option (List Int) :=
 match doesL p act st n with
 | none => none
 | some (w, st) => if w = n.w ∧ widthB w = true ∧ asksB n = true then some (w :: st) else none
def doesR (p : Lp) (act : Int) (st : List Int) (n : Nd) : Option (Int × List Int) :=
 if 1 ≤ n.op ∧ n.op ≤ 6 then some (givR p act n, st) else if ¬ (n.hi = 0 ∧ n.lo = 0) then none else match st with
 | [] => none
 | w :: st => if oneOp n.op = true then some (sngR n w, st) else match st with
  | [] => none
  | v :: st => some (prR n v w, st)
def nodeR (p : Lp) (act : Int) (st : List Int) (n : Nd) : Option (List Int) :=
 match doesR p act st n with
 | none => none
 | some (w, st) => if w = n.w ∧ widthB w = true then some (w :: st) else none
def foldN (f : List Int → Nd → Option (List Int)) : List Int → List Nd → Option (List Int)
 | st, [] => some st
 | st, n :: c => match f st n with
  | none => none
  | some st' => foldN f st' c
def lastW : Option (List Int) → Option Int
 | some [w] => some w
 | _ => none
def wdN (f : List Int → Nd → Option (List Int)) (c : List Nd) : Option Int := if 65536 < c.length then none else lastW (foldN f [] c)
def wdL (p : Lp) (act : Int) (c : List Nd) : Option Int := wdN (nodeL p act) c
def wdR (p : Lp) (act : Int) (c : List Nd) : Option Int := wdN (nodeR p act) c
theorem ifs_same {w w' nw : Int} {st : List Int} {A : Prop} [Decidable A] (h : (w = nw ∧ widthB nw = true ∧ A) ↔ (w' = nw ∧ widthB nw = true)) : (if w = nw ∧ widthB w = true ∧ A then some (w :: st) else none) = (if w' = nw ∧ widthB w' = true then some (w' :: st) else none) := by
 by_cases h1 : w = nw ∧ widthB nw = true ∧ A
 ·obtain ⟨a, b⟩ := h.1 h1
  obtain ⟨c, d, e⟩ := h1
  subst c
  rw [if_pos ⟨rfl, d, e⟩, if_pos ⟨a, by rw [a]; exact b⟩, a]
 ·rw [if_neg (fun g => h1 ⟨g.1, by rw [← g.1]; exact g.2⟩), if_neg (fun g => h1 (h.2 ⟨g.1, by rw [← g.1]; exact g.2⟩))]
theorem ifs_none {w nw : Int} {st : List Int} {A : Prop} [Decidable A] (h : ¬ (w = nw ∧ widthB nw = true ∧ A)) : (if w = nw ∧ widthB w = true ∧ A then some (w :: st) else none) = none := if_neg fun g => h ⟨g.1, by rw [← g.1]; exact g.2⟩
theorem ifs_none' {w nw : Int} {st : List Int} (h : ¬ (w = nw ∧ widthB nw = true)) : (if w = nw ∧ widthB w = true then some (w :: st) else none) = none := if_neg fun g => h ⟨g.1, by rw [← g.1]; exact g.2⟩
theorem widthB_iff (w : Int) : widthB w = true ↔ 1 ≤ w ∧ w ≤ 128 := by simp [widthB]
theorem nodeL_eq (p : Lp) (act : Int) (st : List Int) (n : Nd) (h : 0 ≤ n.op) : nodeL p act st n = nodeR p act st n := by
 obtain ⟨op, nw, a, b, hi, lo⟩ := n
 simp only at h
 unfold nodeL nodeR
 by_cases h6 : op ≤ 6
 ·by_cases h1 : 1 ≤ op
  ·simp only [doesL, doesR, if_pos h6, if_pos (And.intro h1 h6)]
   refine ifs_same ?_
   rcases (by omega : op = 1 ∨ op = 2 ∨ op = 3 ∨ op = 4 ∨ op = 5 ∨ op = 6) with rfl | rfl | rfl | rfl | rfl | rfl <;>
    simp only [givL, givR, asksB, oneO, namedO, widthB_iff, Bool.and_eq_true, Bool.or_eq_true, decide_eq_true_eq, reduceCtorEq, Int.reduceEq, Int.reduceNe, if_true, if_false, or_false, or_true, false_or, true_or, true_and, and_true, false_and, ne_eq, not_true_eq_false, not_false_eq_true]
   ·generalize fitN nw hi lo = F
    cases F <;> by_cases k3 : b = 0 <;> by_cases k4 : a = 0 <;> by_cases k5 : 1 ≤ nw ∧ nw ≤ 128 <;> simp [*] <;> omega
   case inr.inr.inr.inr.inl => simp only [givP, Int.reduceEq, if_true, if_false]; by_cases k1 : hi = 0 <;> by_cases k2 : lo = 0 <;> by_cases k3 : b = 0 <;> by_cases k4 : a = 0 <;> simp [*] <;> omega
   all_goals (generalize givP p act _ a b = G; by_cases k1 : hi = 0 <;> by_cases k2 : lo = 0 <;> by_cases k3 : b = 0 <;> by_cases k4 : a = 0 <;> simp [*] <;> omega)
  ·have : op = 0 := by omega
   subst this
   have hg : givL p act ⟨0, nw, a, b, hi, lo⟩ = 0 := by simp [givL, givP]
   simp only [doesL, if_pos h6, hg]
   rw [ifs_none (fun g => by have := (widthB_iff _).1 g.2.1; omega)]
   simp only [doesR, if_neg (show ¬ ((1:Int) ≤ 0 ∧ (0:Int) ≤ 6) by omega)]
   split
   ·rfl
   ·rename_i x e
    split at e
    ·cases e
    ·match st, e with
     | [], e => cases e
     | [w], e => simp [oneOp] at e
     | w :: v :: st, e =>
      simp only [oneOp, Int.reduceEq, decide_false, Bool.or_self, Bool.false_eq_true, if_false, Option.some.injEq, Prod.mk.injEq] at e
      obtain ⟨rfl, rfl⟩ := e
      rw [ifs_none' (fun g => ?_)]
      have := (widthB_iff _).1 g.2
      have h2 := g.1
      simp only [prR] at h2
      split at h2
      ·omega
      ·split at h2
       ·omega
       ·split at h2
        ·omega
        ·split at h2
         ·omega
         ·split at h2 <;> omega
 ·simp only [doesL, doesR, if_neg h6, if_neg (show ¬ (1 ≤ op ∧ op ≤ 6) by omega)]
  by_cases hv : hi = 0 ∧ lo = 0
  ·rw [if_neg (not_not_intro hv)]
   obtain ⟨rfl, rfl⟩ := hv
   match st with
   | [] => rfl
   | [w] =>
    simp only
    by_cases ho : oneOp op = true
    ·simp only [if_pos ho]
     refine ifs_same ?_
     simp only [oneOp, Bool.or_eq_true, decide_eq_true_eq] at ho
     rcases (by omega : op = 7 ∨ op = 8 ∨ op = 9 ∨ op = 13 ∨ op = 14) with rfl | rfl | rfl | rfl | rfl <;>
      simp only [sngL, sngR, asksB, oneO, namedO, widthB_iff, Bool.and_eq_true, Bool.or_eq_true, decide_eq_true_eq, reduceCtorEq, Int.reduceEq, Int.reduceNe, if_true, if_false, or_false, or_true, false_or, true_or, true_and, and_true, false_and, ne_eq, not_true_eq_false, not_false_eq_true] <;>
      (repeat' split) <;> omega
    ·simp only [if_neg ho]
   | w :: v :: st =>
    simp only
    by_cases ho : oneOp op = true
    ·simp only [if_pos ho]
     refine ifs_same ?_
     simp only [oneOp, Bool.or_eq_true, decide_eq_true_eq] at ho
     rcases (by omega : op = 7 ∨ op = 8 ∨ op = 9 ∨ op = 13 ∨ op = 14) with rfl | rfl | rfl | rfl | rfl <;>
      simp only [sngL, sngR, asksB, oneO, namedO, widthB_iff, Bool.and_eq_true, Bool.or_eq_true, decide_eq_true_eq, reduceCtorEq, Int.reduceEq, Int.reduceNe, if_true, if_false, or_false, or_true, false_or, true_or, true_and, and_true, false_and, ne_eq, not_true_eq_false, not_false_eq_true] <;>
      (repeat' split) <;> omega
    ·simp only [if_neg ho]
     refine ifs_same ?_
     simp only [oneOp, Bool.or_eq_true, decide_eq_true_eq] at ho
     have e1 : asksB ⟨op, nw, a, b, 0, 0⟩ = (decide (a = 0) && decide (b = 0)) := by
      have k1 : oneO op = false := by simp [oneO, namedO]; omega
      have k2 : namedO op = false := by simp [namedO]; omega
      simp [asksB, k1, k2]
     rw [e1]
     simp only [prL, prR, widthB_iff, Bool.and_eq_true, decide_eq_true_eq]
     (repeat' split) <;> omega
  ·rw [if_pos hv]
   have e1 : asksB ⟨op, nw, a, b, hi, lo⟩ = false := by
    have k1 : decide (op = 1) = false := by simp; omega
    have k2 : (decide (hi = 0) && decide (lo = 0)) = false := by
     rw [Bool.eq_false_iff]; intro g; simp at g; exact hv g
    simp [asksB, k1, k2]
   split
   ·rfl
   ·rw [e1]; simp
def allN (f : Nat → Bool) : Nat → Bool
 | 0 => true
 | k + 1 => allN f k && f k
theorem allN_iff (f : Nat → Bool) (n : Nat) : allN f n = true ↔ ∀ i, i < n → f i = true := by
 induction n with
 | zero => simp [allN]
 | succ n ih =>
  simp only [allN, Bool.and_eq_true, ih]
  constructor
  ·rintro ⟨h, h1⟩ i hi
   by_cases e : i = n
   ·subst e; exact h1
   ·exact h i (by omega)
  ·intro h; exact ⟨fun i hi => h i (by omega), h n (by omega)⟩
theorem allN_no {f : Nat → Bool} {k n : Nat} (hk : k < n) (h : f k = false) : allN f n = false := by
 rw [Bool.eq_false_iff]; intro g
 have := (allN_iff f n).1 g k hk
 rw [h] at this; cases this
theorem allN_congr {f g : Nat → Bool} {n : Nat} (h : ∀ i, i < n → f i = g i) : allN f n = allN g n := by
 rw [Bool.eq_iff_iff, allN_iff, allN_iff]
 exact ⟨fun a i hi => by rw [← h i hi]; exact a i hi, fun a i hi => by rw [h i hi]; exact a i hi⟩
def atD {α : Type} (f : α → Bool) (l : List α) (i : Nat) : Bool := match l[i]? with
 | some x => f x
 | none => false
theorem atD_at {α : Type} (f : α → Bool) {l : List α} {i : Nat} (h : i < l.length) : atD f l i = f l[i] := by simp [atD, h]
theorem all_allN {α : Type} (f : α → Bool) (l : List α) : l.all f = allN (atD f l) l.length := by
 rw [Bool.eq_iff_iff, allN_iff, List.all_eq_true]
 constructor
 ·intro h i hi; rw [atD_at f hi]; exact h _ (List.getElem_mem hi)
 ·intro h x hx
  obtain ⟨i, hi, rfl⟩ := List.getElem_of_mem hx
  have := h i hi
  rwa [atD_at f hi] at this
def eqF {α β : Type} (f : α → β → Bool) (xs : List α) (ys : List β) : Bool := decide (xs.length = ys.length) && allN (fun i => atD (fun x => atD (f x) ys i) xs i) xs.length
/-- A run. -/
def lrunB (p : Lp) (listed : List Int) (r : Rn) : Bool := match nth p.acts r.act with
 | none => false
 | some a => decide (r.act ∈ listed) && eqF (fun (x : Int × Int) (w : Int) => fitN w x.1 x.2) r.args a.params
/-- What an instruction asks of its code: a width; and is what it names there? -/
def tgt (p : Lp) (x : Ins) : Int × Bool :=
 if x.kind = 1 then (at0 ((nth p.heads x.a).getD []) x.b, inB ((nth p.heads x.a).getD []).length x.b)
 else if x.kind = 2 then (at0 p.metas x.a, inB p.metas.length x.a && decide (x.b = 0))
 else if x.kind = 3 then (0, inB p.tabs.length x.a && decide (x.b = 0))
 else if x.kind = 6 then (0, inB p.heads.length x.a && (decide (x.b = 0) || decide (x.b = 1)))
 else if x.kind = 7 then (1, decide (x.a = 0) && decide (x.b = 0))
 else if x.kind = 5 then (9, decide (x.a = 0) && decide (x.b = 0))
 else (0, (decide (x.kind = 4) || decide (x.kind = 8)) && decide (x.a = 0) && decide (x.b = 0))
def jmpB (x : Ins) (i many : Nat) : Bool := if x.kind = 7 ∨ x.kind = 8 then decide ((i : Int) < x.to) && decide (x.to ≤ many) else decide (x.to = 0)
def cdL (p : Lp) (act : Int) (w : Int) (e : List Nd) : Bool := if w = 0 then e.isEmpty else if 0 < w then decide (wdL p act e = some w) else true
def cdR (p : Lp) (act : Int) (w : Int) (e : List Nd) : Bool := if w = 0 then e.isEmpty else decide (wdR p act e = some w)
def insB (cd : Int → List Nd → Bool) (p : Lp) (act : Int) (many i : Nat) (x : Ins) : Bool := (tgt p x).2 && !(decide (0 ≤ act) && decide (x.kind = 3)) && jmpB x i many && cd (tgt p x).1 x.e
def inssB (cd : Int → List Nd → Bool) (p : Lp) (act : Int) (l : List Ins) : Bool := decide (l.length ≤ 65536) && allN (fun i => atD (insB cd p act l.length i) l i) l.length
def inssL (p : Lp) (act : Int) (l : List Ins) : Bool := inssB (cdL p act) p act l
def inssR (p : Lp) (act : Int) (l : List Ins) : Bool := inssB (cdR p act) p act l
def dstL (l : List Int) (below : Nat) : Bool := allN (fun i => atD (fun x => inB below x && !decide (findI l x < i)) l i) l.length
def dstR (l : List Int) (below : Nat) : Bool := allN (fun i => atD (fun x => inB below x && !decide (x ∈ l.take i)) l i) l.length
def patB (x : Pt) (w : Int) : Bool := fitN w x.vh x.vl && fitN w x.mh x.ml && (decide (andI x.vh x.mh = x.vh) && decide (andI x.vl x.ml = x.vl))
def toB (p : Lp) (to : Int) : Bool := decide (-2 ≤ to) && decide (to < p.steps.length)
def wds (f : List Nd → Option Int) : List (List Nd) → Option (List Int)
 | [] => some []
 | c :: l => match f c with
  | none => none
  | some w => (wds f l).map (w :: ·)
def stepL (p : Lp) (s : Stp) : Bool := match wds (wdL p (-1)) s.keys with
 | none => false
 | some ws => decide (s.keys.length ≤ 4) && decide (s.takes.length ≤ 8) && s.takes.all (inB p.heads.length) && toB p s.to && (if s.keys.length = 0 then decide (s.brs.length = 0) else
  decide (s.to = 0) && decide (1 ≤ s.brs.length) && decide (s.brs.length ≤ 16) && s.brs.all fun b => toB p b.to && eqF patB b.pats ws)
def brR (p : Lp) (n k : Nat) (w : Int) (b : Br) : Bool := toB p b.to && decide (b.pats.length = n) && atD (fun x => patB x w) b.pats k
def keyR (p : Lp) (s : Stp) (k : Nat) : Bool := atD (fun c => match wdR p (-1) c with
 | none => false
 | some w => allN (atD (brR p s.keys.length k w) s.brs) s.brs.length) s.keys k
def stepR (p : Lp) (s : Stp) : Bool := decide (s.takes.length ≤ 8) && decide (s.keys.length ≤ 4) && toB p s.to && allN (atD (inB p.heads.length) s.takes) s.takes.length && (if s.keys.length = 0 then decide (s.brs.length = 0) else
  decide (s.to = 0) && decide (1 ≤ s.brs.length) && decide (s.brs.length ≤ 16) && allN (keyR p s) s.keys.length)
def prefs (l : List Int) : Nat := (l.filter fun x => decide (x = 2)).length
def kindB (k : Int) : Bool := decide (1 ≤ k) && decide (k ≤ 3)
def tabL (p : Lp) (t : Ltb) : Bool := (wds (wdL p (-1)) t.keys).isSome && decide (t.keys.length ≤ 4) && !decide (t.keys.length = 0) && decide (t.kinds.length = t.keys.length) && allN (atD kindB t.kinds) t.kinds.length && decide (prefs t.kinds ≤ 1) &&
 decide (1 ≤ t.acts.length) && decide (t.acts.length ≤ 16) && dstL t.acts p.acts.length && lrunB p t.acts t.run
def tabR (p : Lp) (t : Ltb) : Bool := decide (1 ≤ t.keys.length) && decide (t.keys.length ≤ 4) && decide (t.kinds.length = t.keys.length) && decide (1 ≤ t.acts.length) && decide (t.acts.length ≤ 16) && dstR t.acts p.acts.length &&
 allN (fun i => atD (fun c => (wdR p (-1) c).isSome) t.keys i && atD kindB t.kinds i) t.keys.length && decide (prefs t.kinds < 2) && lrunB p t.acts t.run
def wsum : Int → List Int → Int
 | n, [] => n
 | n, x :: l => wsum (wrap64 (n + x)) l
def wdsB (l : List Int) (most : Nat) : Bool := decide (l.length ≤ most) && l.all widthB
def headB (l : List Int) : Bool := decide (1 ≤ l.length) && wdsB l 16 && decide ((wsum 0 l).tmod 8 = 0) && decide (wsum 0 l ≤ 256)
def namesL (p : Lp) : Bool := eqF (fun (l : List Int) (n : List ByteArray) => decide (l.length = n.length)) p.heads p.nf && decide (p.nh.length = p.heads.length) && decide (p.nm.length = p.metas.length) && decide (p.na.length = p.acts.length) && decide (p.nt.length = p.tabs.length)
def tosOf (s : Stp) : List Int := (if s.keys.length = 0 then [s.to] else []) ++ s.brs.map Br.to
def graph (l : List Stp) (i : Int) : List Int := ((nth l i).map tosOf).getD []
def cycL (l : List Stp) : Bool := (anyD (dnD (graph l) (l.length + 1)) [] (upTo l.length)).1
def cycR (l : List Stp) (s : Int) : Bool := onC (graph l) s (l.length + 1) [] [s]
def actL (p : Lp) (i : Nat) (a : Lac) : Bool := wdsB a.params 8 && inssL p i a.body
def actR (p : Lp) (i : Nat) (a : Lac) : Bool := wdsB a.params 8 && inssR p i a.body
def lmayL (p : Lp) : Bool := decide (p.heads.length ≤ 8) && decide (1 ≤ p.steps.length) && decide (p.steps.length ≤ 16) && decide (p.acts.length ≤ 16) && decide (p.tabs.length ≤ 8) &&
 p.heads.all headB && wdsB p.metas 16 && namesL p && dstL p.emit p.heads.length && allN (fun i => atD (actL p i) p.acts i) p.acts.length && p.steps.all (stepL p) && !cycL p.steps && p.tabs.all (tabL p) && inssL p (-1) p.control
def headsR (p : Lp) : Bool := decide (p.heads.length ≤ 8) && decide (p.nh.length = p.heads.length) && decide (p.nf.length = p.heads.length) && allN (fun i => atD headB p.heads i && atD (fun l => atD (fun n => decide (n.length = l.length)) p.nf i) p.heads i) p.heads.length
def lmayR (p : Lp) : Bool := headsR p && wdsB p.metas 16 && decide (p.nm.length = p.metas.length) && decide (p.na.length = p.acts.length) && decide (p.nt.length = p.tabs.length) &&
 decide (1 ≤ p.steps.length) && decide (p.steps.length ≤ 16) && decide (p.acts.length ≤ 16) && decide (p.tabs.length ≤ 8) && dstR p.emit p.heads.length && inssR p (-1) p.control &&
 allN (atD (stepR p) p.steps) p.steps.length && allN (fun i => !cycR p.steps i) p.steps.length && allN (fun i => atD (actR p i) p.acts i) p.acts.length && allN (atD (tabR p) p.tabs) p.tabs.length
/-- What the cells' kinds tell. -/
def okC (c : List Nd) : Prop := ∀ n ∈ c, 0 ≤ n.op
structure OkP (p : Lp) : Prop where
 ctl : ∀ x ∈ p.control, okC x.e
 act : ∀ a ∈ p.acts, ∀ x ∈ a.body, okC x.e
 stp : ∀ s ∈ p.steps, ∀ c ∈ s.keys, okC c
 tab : ∀ t ∈ p.tabs, ∀ c ∈ t.keys, okC c
theorem foldN_eq (p : Lp) (act : Int) : ∀ (c : List Nd) (st : List Int), okC c → foldN (nodeL p act) st c = foldN (nodeR p act) st c
 | [], _, _ => rfl
 | n :: c, st, h => by
  simp only [foldN, nodeL_eq p act st n (h n (by simp))]
  cases nodeR p act st n with
  | none => rfl
  | some st' => exact foldN_eq p act c st' fun m hm => h m (by simp [hm])
theorem wdL_eq (p : Lp) (act : Int) (c : List Nd) (h : okC c) : wdL p act c = wdR p act c := by unfold wdL wdR wdN; rw [foldN_eq p act c [] h]
theorem node_pos {p : Lp} {act : Int} {st st' : List Int} {n : Nd} (h : nodeL p act st n = some st') (hs : ∀ x ∈ st, widthB x = true) : ∀ x ∈ st', widthB x = true := by
 unfold nodeL at h
 cases hd : doesL p act st n with
 | none => rw [hd] at h; cases h
 | some r =>
  obtain ⟨w, s1⟩ := r
  rw [hd] at h
  simp only at h
  have h1 : ∀ x ∈ s1, x ∈ st := by
   unfold doesL at hd
   split at hd
   ·cases hd; exact fun x h => h
   ·split at hd
    ·cases hd
    ·split at hd
     ·cases hd; exact fun x h => by simp [h]
     ·split at hd
      ·cases hd
      ·cases hd; exact fun x h => by simp [h]
  split at h
  ·rename_i hc
   injection h with h
   subst h
   intro x hx
   rcases List.mem_cons.1 hx with rfl | hx
   ·exact hc.2.1
   ·exact hs x (h1 x hx)
  ·cases h
theorem fold_pos {p : Lp} {act : Int} : ∀ (c : List Nd) (st st' : List Int), foldN (nodeL p act) st c = some st' → (∀ x ∈ st, widthB x = true) → ∀ x ∈ st', widthB x = true
 | [], st, st', h, hs => by simp only [foldN] at h; injection h with h; subst h; exact hs
 | n :: c, st, st', h, hs => by
  simp only [foldN] at h
  cases hn : nodeL p act st n with
  | none => rw [hn] at h; cases h
  | some s1 => rw [hn] at h; exact fold_pos c s1 st' h (node_pos hn hs)
theorem at0_pos {l : List Int} (h : l.all widthB = true) (i : Int) : 0 ≤ at0 l i := by
 unfold at0 nth
 by_cases hi : 0 ≤ i
 ·rw [if_pos hi]
  cases hx : l[i.toNat]? with
  | none => simp
  | some x =>
   have := List.all_eq_true.1 h x (List.mem_of_getElem? hx)
   rw [widthB_iff] at this
   simp; omega
 ·rw [if_neg hi]; simp
theorem tgt_pos {p : Lp} (h1 : ∀ l ∈ p.heads, l.all widthB = true) (h2 : p.metas.all widthB = true) (x : Ins) : 0 ≤ (tgt p x).1 := by
 unfold tgt
 split
 ·refine at0_pos ?_ _
  unfold nth
  split
  ·cases hx : p.heads[x.a.toNat]? with
   | none => simp
   | some l => exact h1 l (List.mem_of_getElem? hx)
  ·simp
 ·split
  ·exact at0_pos h2 _
  ·(repeat' split) <;> simp
theorem inss_eq {p : Lp} (h1 : ∀ l ∈ p.heads, l.all widthB = true) (h2 : p.metas.all widthB = true) (act : Int) (l : List Ins) (h : ∀ x ∈ l, okC x.e) : inssL p act l = inssR p act l := by
 unfold inssL inssR inssB
 congr 1
 refine allN_congr fun i hi => ?_
 rw [atD_at _ hi, atD_at _ hi]
 unfold insB
 congr 1
 have hw := tgt_pos h1 h2 l[i]
 unfold cdL cdR
 rw [wdL_eq p act _ (h _ (List.getElem_mem hi))]
 split
 ·rfl
 ·rw [if_pos (by omega)]
theorem dst_eq (l : List Int) (n : Nat) : dstL l n = dstR l n := by
 unfold dstL dstR
 refine allN_congr fun i hi => ?_
 rw [atD_at _ hi, atD_at _ hi]
 congr 2
 rw [Bool.eq_iff_iff, decide_eq_true_eq, decide_eq_true_eq]
 have h1 := findI_self hi
 have h2 := findI_le hi
 constructor
 ·intro h
  by_cases hm : l[i] ∈ l.take i
  ·exact hm
  ·have := h1.2 hm; omega
 ·intro h
  have : ¬ findI l l[i] = (i : Int) := fun e => h1.1 e h
  omega
theorem wds_some {f : List Nd → Option Int} : ∀ {l : List (List Nd)} {ws : List Int}, wds f l = some ws → ws.length = l.length ∧ ∀ i (h : i < l.length) (h' : i < ws.length), f l[i] = some ws[i]
 | [], ws, h => by simp only [wds] at h; injection h with h; subst h; simp
 | c :: l, ws, h => by
  simp only [wds] at h
  cases hc : f c with
  | none => rw [hc] at h; cases h
  | some w =>
   rw [hc] at h
   simp only at h
   cases hr : wds f l with
   | none => rw [hr] at h; cases h
   | some vs =>
    rw [hr] at h
    simp only [Option.map_some, Option.some.injEq] at h
    subst h
    obtain ⟨h1, h2⟩ := wds_some hr
    refine ⟨by simp [h1], fun i hi hi' => ?_⟩
    cases i with
    | zero => exact hc
    | succ i => exact h2 i (by simpa using hi) (by simpa using hi')
theorem wds_none {f : List Nd → Option Int} : ∀ {l : List (List Nd)}, wds f l = none → ∃ i, ∃ h : i < l.length, f l[i] = none
 | [], h => by simp [wds] at h
 | c :: l, h => by
  simp only [wds] at h
  cases hc : f c with
  | none => exact ⟨0, by simp, hc⟩
  | some w =>
   rw [hc] at h
   simp only at h
   cases hr : wds f l with
   | none => obtain ⟨i, hi, h2⟩ := wds_none hr; exact ⟨i + 1, by simpa using hi, by simpa using h2⟩
   | some vs => rw [hr] at h; cases h
theorem eqF_iff {α β : Type} (f : α → β → Bool) (xs : List α) (ys : List β) : eqF f xs ys = true ↔ xs.length = ys.length ∧ ∀ i (h : i < xs.length) (h' : i < ys.length), f xs[i] ys[i] = true := by
 unfold eqF
 rw [Bool.and_eq_true, decide_eq_true_eq, allN_iff]
 constructor
 ·rintro ⟨h1, h2⟩
  refine ⟨h1, fun i h h' => ?_⟩
  have := h2 i h
  rwa [atD_at _ h, atD_at _ h'] at this
 ·rintro ⟨h1, h2⟩
  refine ⟨h1, fun i h => ?_⟩
  rw [atD_at _ h, atD_at _ (by omega)]
  exact h2 i h (by omega)
theorem step_eq (p : Lp) (s : Stp) (h : ∀ c ∈ s.keys, okC c) : stepL p s = stepR p s := by
 have hw : ∀ i (hi : i < s.keys.length), wdL p (-1) s.keys[i] = wdR p (-1) s.keys[i] := fun i hi => wdL_eq p (-1) _ (h _ (List.getElem_mem hi))
 unfold stepL stepR
 cases hk : wds (wdL p (-1)) s.keys with
 | none =>
  obtain ⟨i, hi, hn⟩ := wds_none hk
  have h0 : ¬ s.keys.length = 0 := by omega
  have : allN (keyR p s) s.keys.length = false := allN_no hi (by unfold keyR; rw [atD_at _ hi, ← hw i hi, hn])
  simp only [if_neg h0, this, Bool.and_false]
 | some ws =>
  obtain ⟨hl, hws⟩ := wds_some hk
  simp only
  by_cases h0 : s.keys.length = 0
  ·simp only [if_pos h0, all_allN]
   cases decide (s.keys.length ≤ 4) <;> cases decide (s.takes.length ≤ 8) <;> cases toB p s.to <;> simp
  ·simp only [if_neg h0, all_allN]
   have hm : allN (atD (fun b => toB p b.to && eqF patB b.pats ws) s.brs) s.brs.length = true ↔ ∀ j, ∀ h : j < s.brs.length, toB p s.brs[j].to = true ∧ eqF patB s.brs[j].pats ws = true := by
    rw [allN_iff]
    refine ⟨fun g j hj => ?_, fun g j hj => ?_⟩
    ·have := g j hj
     rwa [atD_at _ hj, Bool.and_eq_true] at this
    ·rw [atD_at _ hj, Bool.and_eq_true]; exact g j hj
   have hr : allN (keyR p s) s.keys.length = true ↔ ∀ k, ∀ _ : k < s.keys.length, ∀ hk' : k < ws.length, ∀ j, ∀ h : j < s.brs.length, brR p s.keys.length k ws[k] s.brs[j] = true := by
    rw [allN_iff]
    refine ⟨fun g k hk1 hk2 j hj => ?_, fun g k hk1 => ?_⟩
    ·have := g k hk1
     unfold keyR at this
     rw [atD_at _ hk1, ← hw k hk1, hws k hk1 hk2] at this
     simp only [allN_iff] at this
     have := this j hj
     rwa [atD_at _ hj] at this
    ·unfold keyR
     rw [atD_at _ hk1, ← hw k hk1, hws k hk1 (by omega)]
     simp only [allN_iff]
     intro j hj
     rw [atD_at _ hj]
     exact g k hk1 (by omega) j hj
   have hb : 1 ≤ s.brs.length → (allN (atD (fun b => toB p b.to && eqF patB b.pats ws) s.brs) s.brs.length = allN (keyR p s) s.keys.length) := fun _ => by
    rw [Bool.eq_iff_iff, hm, hr]
    constructor
    ·intro g k hk1 hk2 j hj
     obtain ⟨g1, g2⟩ := g j hj
     rw [eqF_iff] at g2
     unfold brR
     have hkp : k < s.brs[j].pats.length := by omega
     rw [g1, atD_at _ hkp, g2.2 k hkp hk2]
     simp; omega
    ·intro g j hj
     have g0 := g 0 (by omega) (by omega) j hj
     unfold brR at g0
     simp only [Bool.and_eq_true, decide_eq_true_eq] at g0
     refine ⟨g0.1.1, ?_⟩
     rw [eqF_iff]
     refine ⟨by omega, fun i hi hi' => ?_⟩
     have gi := g i (by omega) hi' j hj
     unfold brR at gi
     rw [atD_at _ hi] at gi
     simp only [Bool.and_eq_true] at gi
     exact gi.2
   by_cases hb1 : 1 ≤ s.brs.length
   ·rw [hb hb1]
    cases decide (s.keys.length ≤ 4) <;> cases decide (s.takes.length ≤ 8) <;> cases toB p s.to <;> simp
   ·simp only [decide_eq_false hb1, Bool.false_and, Bool.and_false]
theorem tab_eq (p : Lp) (t : Ltb) (h : ∀ c ∈ t.keys, okC c) : tabL p t = tabR p t := by
 have hw : ∀ i (hi : i < t.keys.length), wdL p (-1) t.keys[i] = wdR p (-1) t.keys[i] := fun i hi => wdL_eq p (-1) _ (h _ (List.getElem_mem hi))
 rw [Bool.eq_iff_iff]
 unfold tabL tabR
 rw [dst_eq]
 have hk : (wds (wdL p (-1)) t.keys).isSome = true ↔ ∀ i, ∀ hi : i < t.keys.length, (wdR p (-1) t.keys[i]).isSome = true := by
  cases hr : wds (wdL p (-1)) t.keys with
  | none =>
   obtain ⟨i, hi, hn⟩ := wds_none hr
   simp only [Option.isSome_none, Bool.false_eq_true, false_iff]
   intro g
   have := g i hi
   rw [← hw i hi, hn] at this; cases this
  | some ws =>
   obtain ⟨hl, hws⟩ := wds_some hr
   simp only [Option.isSome_some, true_iff]
   intro i hi
   rw [← hw i hi, hws i hi (by omega)]; rfl
 simp only [Bool.and_eq_true, hk, allN_iff, decide_eq_true_eq, Bool.not_eq_true', decide_eq_false_iff_not]
 constructor
 ·rintro ⟨⟨⟨⟨⟨⟨⟨⟨⟨a1, a2⟩, a3⟩, a4⟩, a5⟩, a6⟩, a7⟩, a8⟩, a9⟩, a10⟩
  exact ⟨⟨⟨⟨⟨⟨⟨⟨by omega, a2⟩, a4⟩, a7⟩, a8⟩, a9⟩, fun i hi => ⟨by rw [atD_at _ hi]; exact a1 i hi, a5 i (by omega)⟩⟩, by omega⟩, a10⟩
 ·rintro ⟨⟨⟨⟨⟨⟨⟨⟨a1, a2⟩, a3⟩, a4⟩, a5⟩, a6⟩, a7⟩, a8⟩, a9⟩
  refine ⟨⟨⟨⟨⟨⟨⟨⟨⟨fun i hi => ?_, a2⟩, by omega⟩, a3⟩, fun i hi => (a7 i (by omega)).2⟩, by omega⟩, a4⟩, a5⟩, a6⟩, a9⟩
  have := (a7 i hi).1
  rwa [atD_at _ hi] at this
theorem nth_mem {α : Type} {l : List α} {i : Int} {x : α} (h : nth l i = some x) : x ∈ l := by
 unfold nth at h
 split at h
 ·exact List.mem_of_getElem? h
 ·cases h
theorem graph_lt (p : Lp) (h : p.steps.all (stepL p) = true) : ∀ i, ∀ t ∈ graph p.steps i, t < p.steps.length := by
 intro i t ht
 unfold graph at ht
 cases hn : nth p.steps i with
 | none => rw [hn] at ht; simp at ht
 | some s =>
  rw [hn] at ht
  simp only [Option.map_some, Option.getD_some, tosOf] at ht
  have hs := List.all_eq_true.1 h s (nth_mem hn)
  unfold stepL at hs
  cases hk : wds (wdL p (-1)) s.keys with
  | none => rw [hk] at hs; cases hs
  | some ws =>
   rw [hk] at hs
   simp only [Bool.and_eq_true] at hs
   obtain ⟨⟨_, h1⟩, h2⟩ := hs
   simp only [toB, Bool.and_eq_true, decide_eq_true_eq] at h1
   rcases List.mem_append.1 ht with ht | ht
   ·split at ht
    ·simp at ht; omega
    ·simp at ht
   ·obtain ⟨b, hb, rfl⟩ := List.mem_map.1 ht
    split at h2
    ·have : s.brs = [] := List.eq_nil_of_length_eq_zero (of_decide_eq_true h2)
     rw [this] at hb; simp at hb
    ·simp only [Bool.and_eq_true] at h2
     have := List.all_eq_true.1 h2.2 b hb
     simp only [Bool.and_eq_true, toB, decide_eq_true_eq] at this
     exact this.1.2
theorem may_eq (p : Lp) (h : OkP p) : lmayL p = lmayR p := by
 have hN : (p.heads.all headB && namesL p) = true ↔ (∀ i, ∀ hi : i < p.heads.length, headB p.heads[i] = true) ∧ (p.heads.length = p.nf.length ∧ ∀ i, ∀ hi : i < p.heads.length, ∀ hi' : i < p.nf.length, p.heads[i].length = p.nf[i].length) ∧ p.nh.length = p.heads.length ∧ p.nm.length = p.metas.length ∧ p.na.length = p.acts.length ∧ p.nt.length = p.tabs.length := by
  unfold namesL
  simp only [Bool.and_eq_true, eqF_iff, decide_eq_true_eq, all_allN, allN_iff]
  constructor
  ·rintro ⟨a, ⟨⟨⟨⟨b, c⟩, d⟩, e⟩, f⟩⟩
   exact ⟨fun i hi => by have := a i hi; rwa [atD_at _ hi] at this, b, c, d, e, f⟩
  ·rintro ⟨a, b, c, d, e, f⟩
   exact ⟨fun i hi => by rw [atD_at _ hi]; exact a i hi, ⟨⟨⟨⟨b, c⟩, d⟩, e⟩, f⟩⟩
 have hH : headsR p = true ↔ p.heads.length ≤ 8 ∧ p.nh.length = p.heads.length ∧ p.nf.length = p.heads.length ∧ (∀ i, ∀ hi : i < p.heads.length, headB p.heads[i] = true) ∧ (∀ i, ∀ hi : i < p.heads.length, ∀ hi' : i < p.nf.length, p.heads[i].length = p.nf[i].length) := by
  unfold headsR
  simp only [Bool.and_eq_true, decide_eq_true_eq, allN_iff]
  constructor
  ·rintro ⟨⟨⟨a, b⟩, c⟩, d⟩
   refine ⟨a, b, c, fun i hi => ?_, fun i hi hi' => ?_⟩
   ·have := (d i hi).1; rwa [atD_at _ hi] at this
   ·have := (d i hi).2; rw [atD_at _ hi, atD_at _ hi', decide_eq_true_eq] at this; exact this.symm
  ·rintro ⟨a, b, c, d, e⟩
   refine ⟨⟨⟨a, b⟩, c⟩, fun i hi => ⟨by rw [atD_at _ hi]; exact d i hi, ?_⟩⟩
   rw [atD_at _ hi, atD_at _ (by omega), decide_eq_true_eq]; exact (e i hi (by omega)).symm
 have hhd : (∀ i, ∀ hi : i < p.heads.length, headB p.heads[i] = true) → ∀ l ∈ p.heads, l.all widthB = true := fun g l hl => by
  obtain ⟨i, hi, rfl⟩ := List.getElem_of_mem hl
  have := g i hi
  simp only [headB, wdsB, Bool.and_eq_true] at this
  exact this.1.1.2.2
 have hmt : wdsB p.metas 16 = true → p.metas.all widthB = true := fun g => by simp only [wdsB, Bool.and_eq_true] at g; exact g.2
 have hcore : (∀ l ∈ p.heads, l.all widthB = true) → p.metas.all widthB = true → (inssL p (-1) p.control = inssR p (-1) p.control) ∧ (allN (fun i => atD (actL p i) p.acts i) p.acts.length = allN (fun i => atD (actR p i) p.acts i) p.acts.length) := fun g1 g2 => ⟨inss_eq g1 g2 _ _ h.ctl, allN_congr fun i hi => by
  rw [atD_at _ hi, atD_at _ hi]; unfold actL actR; rw [inss_eq g1 g2 _ _ (h.act _ (List.getElem_mem hi))]⟩
 have hst : p.steps.all (stepL p) = allN (atD (stepR p) p.steps) p.steps.length := by
  rw [all_allN]
  exact allN_congr fun i hi => by rw [atD_at _ hi, atD_at _ hi, step_eq p _ (h.stp _ (List.getElem_mem hi))]
 have htb : p.tabs.all (tabL p) = allN (atD (tabR p) p.tabs) p.tabs.length := by
  rw [all_allN]
  exact allN_congr fun i hi => by rw [atD_at _ hi, atD_at _ hi, tab_eq p _ (h.tab _ (List.getElem_mem hi))]
 have hcy : p.steps.all (stepL p) = true → ((!cycL p.steps) = allN (fun i => !cycR p.steps i) p.steps.length) := fun g => by
  unfold cycL cycR
  rw [cyc_same (graph_lt p g), Bool.eq_iff_iff, allN_iff, Bool.not_eq_true', List.any_eq_false]
  constructor
  ·intro k i hi
   have := k (i : Int) (by simp only [upTo, List.mem_map, List.mem_range]; exact ⟨i, hi, rfl⟩)
   simpa using this
  ·intro k x hx
   simp only [upTo, List.mem_map, List.mem_range] at hx
   obtain ⟨i, hi, rfl⟩ := hx
   simpa using k i hi
 rw [Bool.eq_iff_iff]
 unfold lmayL lmayR
 rw [dst_eq, ← hst, ← htb]
 constructor
 ·intro g
  simp only [Bool.and_eq_true, decide_eq_true_eq] at g
  obtain ⟨⟨⟨⟨⟨⟨⟨⟨⟨⟨⟨⟨⟨a1, a2⟩, a3⟩, a4⟩, a5⟩, a6⟩, a7⟩, a8⟩, a9⟩, a10⟩, a11⟩, a12⟩, a13⟩, a14⟩ := g
  obtain ⟨b1, b2, b3, b4, b5, b6⟩ := hN.1 (by rw [a6, a8]; rfl)
  obtain ⟨c1, c2⟩ := hcore (hhd b1) (hmt a7)
  simp only [Bool.and_eq_true, decide_eq_true_eq, hH]
  rw [← c1, ← c2, ← hcy a11]
  exact ⟨⟨⟨⟨⟨⟨⟨⟨⟨⟨⟨⟨⟨⟨⟨a1, b3, b2.1.symm, b1, b2.2⟩, a7⟩, b4⟩, b5⟩, b6⟩, a2⟩, a3⟩, a4⟩, a5⟩, a9⟩, a14⟩, a11⟩, a12⟩, a10⟩, a13⟩
 ·intro g
  simp only [Bool.and_eq_true, decide_eq_true_eq, hH] at g
  obtain ⟨⟨⟨⟨⟨⟨⟨⟨⟨⟨⟨⟨⟨⟨⟨a1, b3, b2, b1, b7⟩, a7⟩, b4⟩, b5⟩, b6⟩, a2⟩, a3⟩, a4⟩, a5⟩, a9⟩, a14⟩, a11⟩, a12⟩, a10⟩, a13⟩ := g
  obtain ⟨c1, c2⟩ := hcore (hhd b1) (hmt a7)
  have hn := hN.2 ⟨b1, ⟨b2.symm, b7⟩, b3, b4, b5, b6⟩
  rw [Bool.and_eq_true] at hn
  simp only [Bool.and_eq_true, decide_eq_true_eq]
  rw [c1, c2, hcy a11]
  exact ⟨⟨⟨⟨⟨⟨⟨⟨⟨⟨⟨⟨⟨a1, a2⟩, a3⟩, a4⟩, a5⟩, hn.1⟩, a7⟩, hn.2⟩, a9⟩, a10⟩, a11⟩, a12⟩, a13⟩, a14⟩
end Go.Proofs.YtmfpbahifhndjaaGreat

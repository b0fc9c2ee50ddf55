import Derived.Test.YtmapiiclmmmpbaaGreatDoorTkb01
import Derived.Lib.SlTrimSet
import Derived.Lib.Case
import Derived.Lib.IndexBytes
import Derived.Lib.ParseIntB
import Derived.Test.YtmapiiclmmmpbaaGreatDoorTkb02
set_option linter.all false
/-! Plain: numbers as text. -/
namespace Go.Proofs.YtmapiiclmmmpbaaGreatDoor
open Go.Lib
/-- All digits of a base. -/
def digitsL : Bool → List UInt8
 | false => [48, 49, 50, 51, 52, 53, 54, 55, 56, 57]
 | true => [48, 49, 50, 51, 52, 53, 54, 55, 56, 57, 97, 98, 99, 100, 101, 102]
def baseN : Bool → Nat
 | false => 10
 | true => 16
/-- A digit's value. -/
def dvL (hex : Bool) (c : UInt8) : Nat := (indexByte (digitsL hex) c).toNat
theorem idx_in : ∀ (l : List UInt8) (c : UInt8), c ∈ l → 0 ≤ indexByte l c ∧ indexByte l c < l.length
 | [], c, h => by simp at h
 | b :: l, c, h => by
  unfold indexByte
  by_cases hb : b = c
  ·simp [hb]
  ·have hc : c ∈ l := by
    rcases List.mem_cons.1 h with h | h
    ·exact absurd h.symm hb
    ·exact h
   have ih := idx_in l c hc
   have hb' : (b == c) = false := by simpa using hb
   have hn : ¬ indexByte l c = -1 := by omega
   simp only [hb', Bool.false_eq_true, if_false, beq_iff_eq, hn, List.length_cons]
   omega
theorem digitsL_len (hex : Bool) : (digitsL hex).length = baseN hex := by cases hex <;> rfl
theorem dvL_eq {hex : Bool} {c : UInt8} (h : c ∈ digitsL hex) : indexByte (digitsL hex) c = (dvL hex c : Int) ∧ dvL hex c < baseN hex := by
 have := idx_in _ _ h
 rw [digitsL_len] at this
 unfold dvL
 omega
abbrev two128 : Nat := 340282366920938463463374607431768211456
/-- One digit more. -/
def stepV (hex : Bool) (x : Nat × Bool) (c : UInt8) : Nat × Bool := ((x.1 * baseN hex + dvL hex c) % two128, x.2 && decide (x.1 * baseN hex + dvL hex c < two128))
def accV (hex : Bool) (r : List UInt8) : Nat × Bool := r.foldl (stepV hex) (0, true)
theorem accV_succ (hex : Bool) (r : List UInt8) {k : Nat} (h : k < r.length) : accV hex (r.take (k + 1)) = stepV hex (accV hex (r.take k)) r[k] := by
 unfold accV
 rw [List.take_succ_eq_append_getElem h, List.foldl_append]
 rfl
theorem accV_lt (hex : Bool) (r : List UInt8) : (accV hex r).1 < two128 := by
 unfold accV
 rcases List.eq_nil_or_concat r with rfl | ⟨l, a, rfl⟩
 ·show 0 < two128
  decide
 ·rw [List.concat_eq_append, List.foldl_append]
  exact Nat.mod_lt _ (by decide)
/-- A text as a number, or what is wrong. -/
def parseR (l : List UInt8) : Except Int Nat :=
 let hex := hasPrefix l [48, 120]
 let r := if hex then toLowerA (l.drop 2) else l
 if r = [] then .error 4 else if r.all (fun c => (digitsL hex).contains c) then (if (accV hex r).2 then .ok (accV hex r).1 else .error 5) else .error 4
theorem dw_nil {α : Type} (p : α → Bool) : ∀ l : List α, l.dropWhile p = [] ↔ ∀ x ∈ l, p x = true
 | [] => by simp
 | a :: l => by
  have ih := dw_nil p l
  by_cases h : p a = true
  ·simp [List.dropWhile_cons, h, ih]
  ·simp [List.dropWhile_cons, h]
theorem trimLeft_nil (l cs : List UInt8) : trimLeftS l cs = [] ↔ l.all (fun c => cs.contains c) = true := by
 unfold trimLeftS
 rw [dw_nil, List.all_eq_true]
theorem trimRight_all (l cs : List UInt8) : (trimRightS l cs).all (fun c => cs.contains c) = true ↔ l.all (fun c => cs.contains c) = true := by
 unfold trimRightS
 rw [List.all_reverse]
 constructor
 ·intro h
  have h2 : l.reverse.dropWhile (cs.contains ·) = [] := by
   rcases hd : l.reverse.dropWhile (cs.contains ·) with _ | ⟨a, r⟩
   ·rfl
   ·have h3 : cs.contains a = true := by
     rw [hd] at h
     simp only [List.all_cons, Bool.and_eq_true] at h
     exact h.1
    have h4 := List.head_dropWhile_not (p := (cs.contains ·)) (l := l.reverse) (by rw [hd]; simp)
    simp only [hd, List.head_cons] at h4
    rw [h3] at h4; cases h4
  rw [dw_nil] at h2
  rw [List.all_eq_true]
  intro x hx
  exact h2 x (by simpa using hx)
 ·intro h
  rw [List.all_eq_true] at h ⊢
  intro x hx
  exact h x (by have := (List.dropWhile_suffix (cs.contains ·) (l := l.reverse)).subset hx; simpa using this)
theorem trimS_nil (l cs : List UInt8) : trimS l cs = [] ↔ l.all (fun c => cs.contains c) = true := by
 unfold trimS
 rw [trimLeft_nil, trimRight_all]
end Go.Proofs.YtmapiiclmmmpbaaGreatDoor
/-! Plain: tokens. -/
namespace Go.Proofs.YtmapiiclmmmpbaaGreatDoor
open Go.Lib
/-- A token: its kind, its bytes, its width, its value, its place. -/
structure Tk where
 kind : Nat
 s : List UInt8
 w : Nat
 n : Nat
 pl : Nat
def decV (l : List UInt8) : Nat := l.foldl (fun a c => a * 10 + (c.toNat - 48)) 0
def digB (c : UInt8) : Bool := digitB (c.toNat : Nat)
/-- A number's value, of a width if one is told. -/
def valX (w : Nat) (wide : Bool) : Except Int Nat → Except Int (Nat × Nat)
 | .error e => .error e
 | .ok n => if wide && !decide (n < 2 ^ w) then .error 5 else .ok (w, n)
def valR (w : Nat) (wide : Bool) (l : List UInt8) : Except Int (Nat × Nat) := valX w wide (parseR l)
/-- A word as a number: its width and its value, or what is wrong. -/
def numR (l : List UInt8) : Except Int (Nat × Nat) :=
 let i := indexByte l 119
 if 0 ≤ i then
  let a := l.take i.toNat
  if a.all digB && decide (a.length ≤ 3) then
   if decV a < 1 ∨ 128 < decV a then .error 10 else valR (decV a) true (l.drop (i.toNat + 1))
  else .error 4
 else valR 0 false l
/-- The token that a text begins with: its kind, its bytes, its width, its value; or what is wrong. -/
def oneR (l : List UInt8) : Except Int (Nat × List UInt8 × Nat × Nat) :=
 let w := l.take (wlenL l)
 if w = [] then (if markL l = [] then .error 4 else .ok (3, markL l, 0, 0))
 else if digB (w.headD 0) then
  match numR w with
  | .error e => .error e
  | .ok x => .ok (2, w, x.1, x.2)
 else if 16 < w.length then .error 3 else .ok (1, w, 0, 0)
/-- What a text's tokens are, from a place on; or which is the first fault, and where. -/
def lexL : Nat → Nat → List UInt8 → Except (Int × Nat) (List Tk)
 | 0, _, _ => .ok []
 | fuel + 1, at_, l =>
  let g := gap false l
  if l.drop g = [] then .ok [⟨0, [], 0, 0, at_ + g⟩]
  else match oneR (l.drop g) with
   | .error e => .error (e, at_ + g)
   | .ok x => match lexL fuel (at_ + g + x.2.1.length) ((l.drop g).drop x.2.1.length) with
    | .error e => .error e
    | .ok r => .ok (⟨x.1, x.2.1, x.2.2.1, x.2.2.2, at_ + g⟩ :: r)
def lexR (l : List UInt8) : Except (Int × Nat) (List Tk) := if 65536 < l.length then .error (3, 0) else lexL (l.length + 1) 0 l
theorem indexByte_nat (l : List UInt8) (c : UInt8) : indexByte l c = -1 ∨ ∃ n : Nat, indexByte l c = n ∧ n < l.length := by
 induction l with
 | nil => exact .inl rfl
 | cons b l ih =>
  unfold indexByte
  by_cases hb : (b == c) = true
  ·rw [if_pos hb]; exact .inr ⟨0, rfl, by simp⟩
  ·rw [if_neg hb]
   rcases ih with ih | ⟨n, h1, h2⟩
   ·rw [ih]; exact .inl rfl
   ·rw [h1]
    have : ((n : Int) == -1) = false := by rw [beq_eq_false_iff_ne]; omega
    rw [if_neg (by rw [this]; simp)]
    exact .inr ⟨n + 1, by omega, by simp; omega⟩
theorem cut_w (l : List UInt8) : cut l [119] = if 0 ≤ indexByte l 119 then (l.take (indexByte l 119).toNat, l.drop ((indexByte l 119).toNat + 1), true) else (l, [], false) := by
 unfold cut
 rw [Go.Lib.index_one]
 rfl
/-- Where the ahead part is a row of at most three digits, it is its value. -/
theorem parseM_digits : ∀ (l : List UInt8) (acc : Nat), l.all digB = true → (acc + 1) * 10 ^ l.length ≤ 1000 → parseUintM 65535 acc l = .ok (l.foldl (fun a c => a * 10 + (c.toNat - 48)) acc) ∧ l.foldl (fun a c => a * 10 + (c.toNat - 48)) acc < (acc + 1) * 10 ^ l.length
 | [], acc, _, h => ⟨rfl, by simp⟩
 | c :: r, acc, h, hk => by
  simp only [List.all_cons, Bool.and_eq_true] at h
  have hd : 48 ≤ c.toNat ∧ c.toNat ≤ 57 := by
   have := h.1
   unfold digB digitB at this
   rw [decide_eq_true_eq] at this
   omega
  have hp : 0 < 10 ^ r.length := Nat.pow_pos (by decide)
  have hstep : acc * 10 + (c.toNat - 48) + 1 ≤ (acc + 1) * 10 := by omega
  have hle : (acc * 10 + (c.toNat - 48) + 1) * 10 ^ r.length ≤ (acc + 1) * 10 ^ (c :: r).length := by
   rw [List.length_cons, Nat.pow_succ, Nat.mul_comm (10 ^ r.length) 10, ← Nat.mul_assoc]
   exact Nat.mul_le_mul_right _ hstep
  have hb : acc * 10 + (c.toNat - 48) + 1 ≤ (acc * 10 + (c.toNat - 48) + 1) * 10 ^ r.length := Nat.le_mul_of_pos_right _ hp
  have ih := parseM_digits r (acc * 10 + (c.toNat - 48)) h.2 (Nat.le_trans hle hk)
  refine ⟨?_, Nat.lt_of_lt_of_le ih.2 hle⟩
  unfold parseUintM
  rw [if_pos hd, if_neg (by omega), if_neg (by omega), ih.1]
  rfl
theorem parseM_bad : ∀ (l : List UInt8) (acc : Nat), l.all digB = false → l.length ≤ 3 → ∀ u, parseUintM 65535 acc l ≠ .ok u
 | [], _, h, _, _ => by simp at h
 | c :: r, acc, h, hk, u => by
  unfold parseUintM
  by_cases hd : 48 ≤ c.toNat ∧ c.toNat ≤ 57
  ·rw [if_pos hd]
   split
   ·simp
   ·split
    ·simp
    ·refine parseM_bad r _ ?_ (by simp at hk; omega) u
     have hc : digB c = true := by unfold digB digitB; rw [decide_eq_true_eq]; omega
     simpa [hc] using h
  ·rw [if_neg hd]; simp
theorem parseB_digits {l : List UInt8} (h0 : l ≠ []) (h : l.all digB = true) (hk : l.length ≤ 3) : parseUintB 16 l = .ok (decV l) ∧ decV l < 1000 := by
 have hp : 10 ^ l.length ≤ 1000 := Nat.pow_le_pow_right (n := 10) (by decide) hk
 have := parseM_digits l 0 h (by omega)
 refine ⟨?_, by unfold decV; omega⟩
 unfold parseUintB
 rw [if_neg h0]
 exact this.1
theorem parseB_bad {l : List UInt8} (h : l.all digB = false) (hk : l.length ≤ 3) (u : Nat) : parseUintB 16 l ≠ .ok u := by
 unfold parseUintB
 split
 ·simp
 ·exact parseM_bad l 0 h hk u
end Go.Proofs.YtmapiiclmmmpbaaGreatDoor
/-! Boxes of numbers. -/
namespace Go.Proofs.YtmapiiclmmmpbaaGreatDoor
open Go.RowKit
def parseV : Except Int Nat → Value
 | .ok v => .tuple #[.agg #[.int .u64 ((v / 18446744073709551616 : Nat) : Int), .int .u64 ((v % 18446744073709551616 : Nat) : Int)], .int .i64 0]
 | .error n => .tuple #[.agg #[.int .u64 0, .int .u64 0], .int .i64 n]
/-- A box of a number's two halves. -/
structure NBox (W : World) (g : Nat) (x y : Int) : Prop where
 lt : g < W.heap.size
 c0 : W.cell? ⟨g, 0, none⟩ = some (.int .u64 x)
 c1 : W.cell? ⟨g, 1, none⟩ = some (.int .u64 y)
 f0 : W.frozen? ⟨g, 0, none⟩ = false
 f1 : W.frozen? ⟨g, 1, none⟩ = false
theorem NBox.below {W W' : World} {g B : Nat} {x y : Int} (h : NBox W g x y) (hb : Below B W W') (hg : g < B) : NBox W' g x y :=
 ⟨Nat.lt_of_lt_of_le h.lt hb.size, (hb.cell (p := ⟨g, 0, none⟩) hg).trans h.c0, (hb.cell (p := ⟨g, 1, none⟩) hg).trans h.c1, (hb.frozen (p := ⟨g, 0, none⟩) hg).trans h.f0, (hb.frozen (p := ⟨g, 1, none⟩) hg).trans h.f1⟩
theorem NBox.new (W : World) (x y : Int) (t : TypeId) : NBox (W.alloc (.cells #[.int .u64 x, .int .u64 y] t)) W.heap.size x y := by
 obtain ⟨wa, hwa, hsa, hba, hca, hfa⟩ := box1 W #[.int .u64 x, .int .u64 y] t
 rw [hwa]
 exact ⟨by omega, hca 0, hca 1, hfa 0, hfa 1⟩
theorem NBox.alloc {W : World} {g : Nat} {x y : Int} (h : NBox W g x y) (o : Obj) : NBox (W.alloc o) g x y := h.below ((Below.refl _ _).alloc (Nat.le_refl _) o) h.lt
theorem setCell_size (W : World) (a : Addr) (v : Value) : (W.setCell a v).heap.size = W.heap.size := by simp [World.setCell]
theorem NBox.far {W : World} {g k i : Nat} {x y : Int} (h : NBox W g x y) (v : Value) (hk : k ≠ g) : NBox (W.setCell ⟨k, i, none⟩ v) g x y := by
 have hh : (W.setCell ⟨k, i, none⟩ v).heap[g]? = W.heap[g]? := Below.heap_setCell _ _ _ _ (fun e => hk e.symm)
 refine ⟨by rw [setCell_size]; exact h.lt, ?_, ?_, ?_, ?_⟩
 ·rw [← h.c0]; unfold World.cell?; rw [hh]
 ·rw [← h.c1]; unfold World.cell?; rw [hh]
 ·rw [← h.f0]; unfold World.frozen?; rw [hh]
 ·rw [← h.f1]; unfold World.frozen?; rw [hh]
theorem NBox.set {W : World} {g : Nat} {x y : Int} (h : NBox W g x y) (x' y' : Int) : NBox ((W.setCell ⟨g, 0, none⟩ (.int .u64 x')).setCell ⟨g, 1, none⟩ (.int .u64 y')) g x' y' := by
 obtain ⟨hl, c0, c1, f0, f1⟩ := h
 refine ⟨by rw [setCell_size, setCell_size]; exact hl, ?_, ?_, ?_, ?_⟩ <;> simp [go_sem, c0, c1, f0, f1]
end Go.Proofs.YtmapiiclmmmpbaaGreatDoor

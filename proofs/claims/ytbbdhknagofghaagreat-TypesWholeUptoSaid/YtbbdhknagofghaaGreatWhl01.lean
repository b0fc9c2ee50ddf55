import Derived.Test.YtbbdhknagofghaaGreatRows
import Derived.WalkKit
import Derived.WalkSpells
import Derived.WalkLawsBesides
import Derived.Deep.QuietTactic
import Derived.BigQuiet
import Derived.Maps.AppendAt
import Derived.Deep.AppendLies
import Derived.RegionTactic
import Derived.OwnWalk
import Derived.Lib.QuietBelow
set_option linter.all false
namespace Go.Proofs.YtbbdhknagofghaaGreat
open Go.RowKit
theorem hide {p : Prop} (h : p) : Hid p := h
abbrev CR (α : Type) := World → Nat → List Value → α → Prop
structure Sta {α : Type} (R : CR α) : Prop where
 keep : ∀ {w w' : World} {B : Nat} {cs : List Value} {x : α}, R w B cs x → (∀ p : Addr, p.block < B → w'.cell? p = w.cell? p) → R w' B cs x
 more : ∀ {w : World} {B B' : Nat} {cs : List Value} {x : α}, R w B cs x → B ≤ B' → R w B' cs x
def rInt : CR Int := fun _ _ cs x => cs = [.int .i64 x]
def rStr : CR ByteArray := fun _ _ cs s => cs = [.string s] ∧ s.size ≤ maxLen
theorem sta_str : Sta rStr := ⟨fun h _ => h, fun h _ => h⟩
section
variable {α : Type} {R : CR α} {k : Nat} {w w' : World} {B B' : Nat} {A : Option Addr} {xs : List α}
def Sl (k : Nat) (R : CR α) (w : World) (B : Nat) (A : Option Addr) (xs : List α) : Prop :=
 xs.length ≤ maxLen ∧ ∀ i x, xs[i]? = some x → ∃ b o ecs, A = some ⟨b, o, none⟩ ∧ b < B ∧ ecs.length = k ∧ (∀ j u, ecs[j]? = some u → w.cell? ⟨b, o + i * k + j, none⟩ = some u) ∧ R w B ecs x
def rSl (k : Nat) (R : CR α) : CR (List α) := fun w B cs xs => ∃ A cap, cs = [.slice A xs.length cap] ∧ Sl k R w B A xs
theorem Sl.keep (hs : Sta R) (h : Sl k R w B A xs) (hk : ∀ p : Addr, p.block < B → w'.cell? p = w.cell? p) : Sl k R w' B A xs :=
 ⟨h.1, fun i x hx => by
  obtain ⟨b, o, ecs, hA, hb, hl, hc, hr⟩ := h.2 i x hx
  exact ⟨b, o, ecs, hA, hb, hl, fun j u hu => (hk _ hb).trans (hc j u hu), hs.keep hr hk⟩⟩
theorem Sl.more (hs : Sta R) (h : Sl k R w B A xs) (hB : B ≤ B') : Sl k R w B' A xs :=
 ⟨h.1, fun i x hx => by
  obtain ⟨b, o, ecs, hA, hb, hl, hc, hr⟩ := h.2 i x hx
  exact ⟨b, o, ecs, hA, by omega, hl, hc, hs.more hr hB⟩⟩
theorem Sl.below (hs : Sta R) (h : Sl k R w B A xs) (hb : Below B w w') : Sl k R w' B A xs := h.keep hs fun _ hp => hb.cell hp
theorem Sl.alloc (hs : Sta R) (h : Sl k R w B A xs) (hB : B ≤ w.heap.size) (o : Obj) : Sl k R (w.alloc o) B A xs := h.keep hs fun p hp => World.cell?_alloc_lt w o p (by omega)
theorem Sl.nil_ : Sl k R w B A ([] : List α) := ⟨by simp, fun i x hx => by simp at hx⟩
theorem Sl.len (h : Sl k R w B A xs) : xs.length ≤ 9223372036854775807 := h.1
theorem Sl.at1 (h : Sl 1 R w B A xs) {i : Nat} (hi : i < xs.length) : ∃ b o u, A = some ⟨b, o, none⟩ ∧ b < B ∧ w.cell? ⟨b, o + i, none⟩ = some u ∧ R w B [u] xs[i] := by
 obtain ⟨b, o, ecs, hA, hb, hl, hc, hr⟩ := h.2 i xs[i] (List.getElem?_eq_getElem hi)
 match ecs, hl with
 | [u], _ =>
  have := hc 0 u rfl
  exact ⟨b, o, u, hA, hb, by simpa using this, hr⟩
theorem Sl.int {xs : List Int} (h : Sl 1 rInt w B A xs) {i : Nat} (hi : i < xs.length) : ∃ b o, A = some ⟨b, o, none⟩ ∧ b < B ∧ w.cell? ⟨b, o + i, none⟩ = some (.int .i64 xs[i]) := by
 obtain ⟨b, o, u, hA, hb, hc, hr⟩ := h.at1 hi
 cases hr
 exact ⟨b, o, hA, hb, hc⟩
theorem Sl.str {xs : List ByteArray} (h : Sl 1 rStr w B A xs) {i : Nat} (hi : i < xs.length) : ∃ b o, A = some ⟨b, o, none⟩ ∧ b < B ∧ w.cell? ⟨b, o + i, none⟩ = some (.string xs[i]) ∧ xs[i].size ≤ maxLen := by
 obtain ⟨b, o, u, hA, hb, hc, hr, hz⟩ := h.at1 hi
 cases hr
 exact ⟨b, o, hA, hb, hc, hz⟩
end
theorem any_take_succ {α : Type} {p : α → Bool} {xs : List α} {k : Nat} (hlt : k < xs.length) (hc : (xs.take k).any p = false) (he : p xs[k] = false) : (xs.take (k + 1)).any p = false := by
 rw [List.take_succ_eq_append_getElem hlt, List.any_append, hc]; simp [he]
theorem any_of_getElem {α : Type} {p : α → Bool} {xs : List α} {k : Nat} (hlt : k < xs.length) (he : p xs[k] = true) : xs.any p = true :=
 List.any_eq_true.2 ⟨xs[k], List.getElem_mem _, he⟩
theorem any_of_take {α : Type} {p : α → Bool} {xs : List α} {k : Nat} (hk : k ≤ xs.length) (hn : ¬ k < xs.length) (hc : (xs.take k).any p = false) : xs.any p = false := by
 rwa [List.take_of_length_le (by omega)] at hc
theorem ret_bool {a b : Bool} (h : a = true ↔ b = true) : Ending.returned (.bool a) = .returned (.bool b) := by rw [Bool.eq_iff_iff.2 h]
theorem ret_b {a b : Bool} (h : a = b) : Ending.returned (.bool a) = .returned (.bool b) := by rw [h]
theorem ret_int {k : IntKind} {a b : Int} (h : a = b) : Ending.returned (.int k a) = .returned (.int k b) := by rw [h]
theorem below_drewN {B : Nat} {a w : World} (h : Below B a w) (n : Nat) : Below B a (w.drewN n) := ⟨h.os, h.tape, h.output, h.size, h.block⟩
theorem Sl.drewN {α : Type} {R : CR α} {k : Nat} {w : World} {B : Nat} {A : Option Addr} {xs : List α} (hs : Sta R) (h : Sl k R w B A xs) (n : Nat) : Sl k R (w.drewN n) B A xs := h.keep hs fun _ _ => rfl
theorem str_beq (a b : ByteArray) : (a.toList == b.toList) = decide (a = b) := by
 rw [ByteArray.toList_eq, ByteArray.toList_eq, Bool.eq_iff_iff]
 simp only [beq_iff_eq, decide_eq_true_eq]
 exact ⟨fun h => Go.WideShapes.bytes_inj h, fun h => by rw [h]⟩
theorem str_eq {a b : ByteArray} (h : a = b) : (a.toList == b.toList) = true := by rw [str_beq]; simpa using h
theorem str_ne {a b : ByteArray} (h : ¬ a = b) : (a.toList == b.toList) = false := by rw [str_beq]; simpa using h
theorem notMem_take_snoc {α : Type} {xs : List α} {n : α} {k : Nat} (hlt : k < xs.length) (hc : n ∉ xs.take k) (he : ¬ xs[k] = n) : n ∉ xs.take (k + 1) := by
 rw [List.take_succ_eq_append_getElem hlt]
 intro h
 rcases List.mem_append.1 h with h | h
 ·exact hc h
 ·rw [List.mem_singleton] at h
  exact he h.symm
theorem notMem_of_take {α : Type} {xs : List α} {n : α} {k : Nat} (hk : k ≤ xs.length) (hn : ¬ k < xs.length) (hc : n ∉ xs.take k) : n ∉ xs := by
 rwa [List.take_of_length_le (by omega)] at hc
def idx {α : Type} [DecidableEq α] : List α → α → Nat
 | [], _ => 0
 | x :: l, a => if x = a then 0 else idx l a + 1
def findI {α : Type} [DecidableEq α] (l : List α) (a : α) : Int := if a ∈ l then (idx l a : Nat) else -1
theorem idx_at {α : Type} [DecidableEq α] (a : α) : ∀ (l : List α) (k : Nat) (hk : k < l.length), a ∉ l.take k → l[k] = a → idx l a = k
 | [], k, hk, _, _ => absurd hk (by simp)
 | x :: l, 0, _, _, he => by simp at he; simp [idx, he]
 | x :: l, k + 1, hk, hn, he => by
  simp only [List.take_succ_cons, List.mem_cons, not_or] at hn
  have h1 : ¬ x = a := fun e => hn.1 e.symm
  simp only [idx, if_neg h1]
  rw [idx_at a l k (by simpa using hk) hn.2 (by simpa using he)]
theorem findI_at {α : Type} [DecidableEq α] {a : α} {l : List α} {k : Nat} (hk : k < l.length) (hn : a ∉ l.take k) (he : l[k] = a) : findI l a = (k : Int) := by
 unfold findI
 rw [if_pos (by rw [← he]; exact List.getElem_mem _), idx_at a l k hk hn he]
theorem findI_no {α : Type} [DecidableEq α] {a : α} {l : List α} (h : a ∉ l) : findI l a = -1 := by unfold findI; rw [if_neg h]
theorem idx_lt {α : Type} [DecidableEq α] (a : α) : ∀ (l : List α), a ∈ l → idx l a < l.length
 | [], h => by simp at h
 | x :: l, h => by
  simp only [idx]
  by_cases e : x = a
  ·rw [if_pos e]; simp
  ·rw [if_neg e]
   rcases List.mem_cons.1 h with h | h
   ·exact absurd h.symm e
   ·have := idx_lt a l h; simp; omega
theorem bcell {W w1 : World} (hb : Below W.heap.size W w1) : (∀ b o, b < W.heap.size → w1.cell? ⟨b, o, none⟩ = W.cell? ⟨b, o, none⟩) ∧ (∀ b o, b < W.heap.size → w1.frozen? ⟨b, o, none⟩ = W.frozen? ⟨b, o, none⟩) ∧ W.heap.size ≤ w1.heap.size :=
 ⟨fun b o h => hb.cell (p := ⟨b, o, none⟩) h, fun b o h => hb.frozen (p := ⟨b, o, none⟩) h, hb.size⟩
theorem below_of_regrown {W w1 : World} (h : ∃ p : Regrown, w1 = Go.Sort.grow (redrawn W p.d) p.os) : Below W.heap.size W w1 := by
 obtain ⟨p, rfl⟩ := h; exact below_regrown _ _ _
theorem gsize (W : World) (d : Nat) (os : Array Obj) : W.heap.size ≤ (Go.Sort.grow (redrawn W d) os).heap.size := (below_regrown W d os).size
theorem box1 (w : World) (cs : Array Value) (t : TypeId) : ∃ wb, w.alloc (.cells cs t) = wb ∧ wb.heap.size = w.heap.size + 1 ∧ Below w.heap.size w wb ∧ (∀ i, wb.cell? ⟨w.heap.size, i, none⟩ = cs[i]?) ∧ (∀ i, wb.frozen? ⟨w.heap.size, i, none⟩ = false) :=
 ⟨_, rfl, by simp, (Below.refl _ _).alloc (Nat.le_refl _) _, fun _ => World.cell?_alloc_at _ _ _ _ rfl, fun _ => World.frozen?_alloc_at _ _ _ _ rfl⟩
theorem gcell' {B : Nat} {wb wr : World} (h : Below B wb wr) (hz : B ≤ wr.heap.size) : ∀ d os b o, b < B → (Go.Sort.grow (redrawn wr d) os).cell? ⟨b, o, none⟩ = wb.cell? ⟨b, o, none⟩ :=
 fun d os b o hb => ((below_regrown wr d os).cell (p := ⟨b, o, none⟩) (Nat.lt_of_lt_of_le hb hz)).trans (h.cell hb)
theorem bcell' {B : Nat} {wb wr : World} (h : Below B wb wr) : (∀ b o, b < B → wr.cell? ⟨b, o, none⟩ = wb.cell? ⟨b, o, none⟩) ∧ (∀ b o, b < B → wr.frozen? ⟨b, o, none⟩ = wb.frozen? ⟨b, o, none⟩) :=
 ⟨fun b o hb => h.cell (p := ⟨b, o, none⟩) hb, fun b o hb => h.frozen (p := ⟨b, o, none⟩) hb⟩
theorem below_grow {B : Nat} {wb wr : World} (h : Below B wb wr) (hz : B ≤ wr.heap.size) (d : Nat) (os : Array Obj) : Below B wb (Go.Sort.grow (redrawn wr d) os) := h.trans ((below_regrown wr d os).mono hz)
theorem flatMap_get {α : Type} {f : α → List Value} {k : Nat} (hf : ∀ x, (f x).length = k) : ∀ (xs : List α) (i j : Nat) (x : α) (u : Value), xs[i]? = some x → (f x)[j]? = some u → (xs.flatMap f)[i * k + j]? = some u
 | [], i, j, x, u, h, _ => by simp at h
 | y :: xs, 0, j, x, u, h, hu => by
  simp at h; subst h
  have : j < (f y).length := (List.getElem?_eq_some_iff.1 hu).1
  simp [List.flatMap_cons, List.getElem?_append_left this, hu]
 | y :: xs, i + 1, j, x, u, h, hu => by
  have ih := flatMap_get hf xs i j x u (by simpa using h) hu
  have hy := hf y
  rw [List.flatMap_cons, List.getElem?_append_right (by rw [hy, Nat.add_mul]; omega), ← ih]
  congr 1
  rw [hy, Nat.add_mul]; omega
theorem row3 {w : World} {a : Nat} {v0 v1 v2 : Value} (h : ∀ i, w.cell? ⟨a, i, none⟩ = (#[v0, v1, v2] : Array Value)[i]?) :
  w.cell? ⟨a, 0, none⟩ = some v0 ∧ w.cell? ⟨a, 1, none⟩ = some v1 ∧ w.cell? ⟨a, 2, none⟩ = some v2 :=
 ⟨h 0, h 1, h 2⟩
theorem srow3 {w : World} {b m : Nat} {v0 v1 v2 : Value} (h : ∀ j u, ([v0, v1, v2] : List Value)[j]? = some u → w.cell? ⟨b, m + j, none⟩ = some u) :
  w.cell? ⟨b, m, none⟩ = some v0 ∧ w.cell? ⟨b, m + 1, none⟩ = some v1 ∧ w.cell? ⟨b, m + 2, none⟩ = some v2 :=
 ⟨h 0 _ rfl, h 1 _ rfl, h 2 _ rfl⟩
theorem row5 {w : World} {a : Nat} {v0 v1 v2 v3 v4 : Value} (h : ∀ i, w.cell? ⟨a, i, none⟩ = (#[v0, v1, v2, v3, v4] : Array Value)[i]?) :
  w.cell? ⟨a, 0, none⟩ = some v0 ∧ w.cell? ⟨a, 1, none⟩ = some v1 ∧ w.cell? ⟨a, 2, none⟩ = some v2 ∧ w.cell? ⟨a, 3, none⟩ = some v3 ∧ w.cell? ⟨a, 4, none⟩ = some v4 :=
 ⟨h 0, h 1, h 2, h 3, h 4⟩
theorem srow5 {w : World} {b m : Nat} {v0 v1 v2 v3 v4 : Value} (h : ∀ j u, ([v0, v1, v2, v3, v4] : List Value)[j]? = some u → w.cell? ⟨b, m + j, none⟩ = some u) :
  w.cell? ⟨b, m, none⟩ = some v0 ∧ w.cell? ⟨b, m + 1, none⟩ = some v1 ∧ w.cell? ⟨b, m + 2, none⟩ = some v2 ∧ w.cell? ⟨b, m + 3, none⟩ = some v3 ∧ w.cell? ⟨b, m + 4, none⟩ = some v4 :=
 ⟨h 0 _ rfl, h 1 _ rfl, h 2 _ rfl, h 3 _ rfl, h 4 _ rfl⟩
theorem row7 {w : World} {a : Nat} {v0 v1 v2 v3 v4 v5 v6 : Value} (h : ∀ i, w.cell? ⟨a, i, none⟩ = (#[v0, v1, v2, v3, v4, v5, v6] : Array Value)[i]?) :
  w.cell? ⟨a, 0, none⟩ = some v0 ∧ w.cell? ⟨a, 1, none⟩ = some v1 ∧ w.cell? ⟨a, 2, none⟩ = some v2 ∧ w.cell? ⟨a, 3, none⟩ = some v3 ∧ w.cell? ⟨a, 4, none⟩ = some v4 ∧ w.cell? ⟨a, 5, none⟩ = some v5 ∧ w.cell? ⟨a, 6, none⟩ = some v6 :=
 ⟨h 0, h 1, h 2, h 3, h 4, h 5, h 6⟩
theorem srow7 {w : World} {b m : Nat} {v0 v1 v2 v3 v4 v5 v6 : Value} (h : ∀ j u, ([v0, v1, v2, v3, v4, v5, v6] : List Value)[j]? = some u → w.cell? ⟨b, m + j, none⟩ = some u) :
  w.cell? ⟨b, m, none⟩ = some v0 ∧ w.cell? ⟨b, m + 1, none⟩ = some v1 ∧ w.cell? ⟨b, m + 2, none⟩ = some v2 ∧ w.cell? ⟨b, m + 3, none⟩ = some v3 ∧ w.cell? ⟨b, m + 4, none⟩ = some v4 ∧ w.cell? ⟨b, m + 5, none⟩ = some v5 ∧ w.cell? ⟨b, m + 6, none⟩ = some v6 :=
 ⟨h 0 _ rfl, h 1 _ rfl, h 2 _ rfl, h 3 _ rfl, h 4 _ rfl, h 5 _ rfl, h 6 _ rfl⟩
theorem row9 {w : World} {a : Nat} {v0 v1 v2 v3 v4 v5 v6 v7 v8 : Value} (h : ∀ i, w.cell? ⟨a, i, none⟩ = (#[v0, v1, v2, v3, v4, v5, v6, v7, v8] : Array Value)[i]?) :
  w.cell? ⟨a, 0, none⟩ = some v0 ∧ w.cell? ⟨a, 1, none⟩ = some v1 ∧ w.cell? ⟨a, 2, none⟩ = some v2 ∧ w.cell? ⟨a, 3, none⟩ = some v3 ∧ w.cell? ⟨a, 4, none⟩ = some v4 ∧ w.cell? ⟨a, 5, none⟩ = some v5 ∧ w.cell? ⟨a, 6, none⟩ = some v6 ∧ w.cell? ⟨a, 7, none⟩ = some v7 ∧ w.cell? ⟨a, 8, none⟩ = some v8 :=
 ⟨h 0, h 1, h 2, h 3, h 4, h 5, h 6, h 7, h 8⟩
theorem srow9 {w : World} {b m : Nat} {v0 v1 v2 v3 v4 v5 v6 v7 v8 : Value} (h : ∀ j u, ([v0, v1, v2, v3, v4, v5, v6, v7, v8] : List Value)[j]? = some u → w.cell? ⟨b, m + j, none⟩ = some u) :
  w.cell? ⟨b, m, none⟩ = some v0 ∧ w.cell? ⟨b, m + 1, none⟩ = some v1 ∧ w.cell? ⟨b, m + 2, none⟩ = some v2 ∧ w.cell? ⟨b, m + 3, none⟩ = some v3 ∧ w.cell? ⟨b, m + 4, none⟩ = some v4 ∧ w.cell? ⟨b, m + 5, none⟩ = some v5 ∧ w.cell? ⟨b, m + 6, none⟩ = some v6 ∧ w.cell? ⟨b, m + 7, none⟩ = some v7 ∧ w.cell? ⟨b, m + 8, none⟩ = some v8 :=
 ⟨h 0 _ rfl, h 1 _ rfl, h 2 _ rfl, h 3 _ rfl, h 4 _ rfl, h 5 _ rfl, h 6 _ rfl, h 7 _ rfl, h 8 _ rfl⟩
theorem row10 {w : World} {a : Nat} {v0 v1 v2 v3 v4 v5 v6 v7 v8 v9 : Value} (h : ∀ i, w.cell? ⟨a, i, none⟩ = (#[v0, v1, v2, v3, v4, v5, v6, v7, v8, v9] : Array Value)[i]?) :
  w.cell? ⟨a, 0, none⟩ = some v0 ∧ w.cell? ⟨a, 1, none⟩ = some v1 ∧ w.cell? ⟨a, 2, none⟩ = some v2 ∧ w.cell? ⟨a, 3, none⟩ = some v3 ∧ w.cell? ⟨a, 4, none⟩ = some v4 ∧ w.cell? ⟨a, 5, none⟩ = some v5 ∧ w.cell? ⟨a, 6, none⟩ = some v6 ∧ w.cell? ⟨a, 7, none⟩ = some v7 ∧ w.cell? ⟨a, 8, none⟩ = some v8 ∧ w.cell? ⟨a, 9, none⟩ = some v9 :=
 ⟨h 0, h 1, h 2, h 3, h 4, h 5, h 6, h 7, h 8, h 9⟩
theorem srow10 {w : World} {b m : Nat} {v0 v1 v2 v3 v4 v5 v6 v7 v8 v9 : Value} (h : ∀ j u, ([v0, v1, v2, v3, v4, v5, v6, v7, v8, v9] : List Value)[j]? = some u → w.cell? ⟨b, m + j, none⟩ = some u) :
  w.cell? ⟨b, m, none⟩ = some v0 ∧ w.cell? ⟨b, m + 1, none⟩ = some v1 ∧ w.cell? ⟨b, m + 2, none⟩ = some v2 ∧ w.cell? ⟨b, m + 3, none⟩ = some v3 ∧ w.cell? ⟨b, m + 4, none⟩ = some v4 ∧ w.cell? ⟨b, m + 5, none⟩ = some v5 ∧ w.cell? ⟨b, m + 6, none⟩ = some v6 ∧ w.cell? ⟨b, m + 7, none⟩ = some v7 ∧ w.cell? ⟨b, m + 8, none⟩ = some v8 ∧ w.cell? ⟨b, m + 9, none⟩ = some v9 :=
 ⟨h 0 _ rfl, h 1 _ rfl, h 2 _ rfl, h 3 _ rfl, h 4 _ rfl, h 5 _ rfl, h 6 _ rfl, h 7 _ rfl, h 8 _ rfl, h 9 _ rfl⟩
theorem row14 {w : World} {a : Nat} {v0 v1 v2 v3 v4 v5 v6 v7 v8 v9 v10 v11 v12 v13 : Value} (h : ∀ i, w.cell? ⟨a, i, none⟩ = (#[v0, v1, v2, v3, v4, v5, v6, v7, v8, v9, v10, v11, v12, v13] : Array Value)[i]?) :
  w.cell? ⟨a, 0, none⟩ = some v0 ∧ w.cell? ⟨a, 1, none⟩ = some v1 ∧ w.cell? ⟨a, 2, none⟩ = some v2 ∧ w.cell? ⟨a, 3, none⟩ = some v3 ∧ w.cell? ⟨a, 4, none⟩ = some v4 ∧ w.cell? ⟨a, 5, none⟩ = some v5 ∧ w.cell? ⟨a, 6, none⟩ = some v6 ∧ w.cell? ⟨a, 7, none⟩ = some v7 ∧ w.cell? ⟨a, 8, none⟩ = some v8 ∧ w.cell? ⟨a, 9, none⟩ = some v9 ∧ w.cell? ⟨a, 10, none⟩ = some v10 ∧ w.cell? ⟨a, 11, none⟩ = some v11 ∧ w.cell? ⟨a, 12, none⟩ = some v12 ∧ w.cell? ⟨a, 13, none⟩ = some v13 :=
 ⟨h 0, h 1, h 2, h 3, h 4, h 5, h 6, h 7, h 8, h 9, h 10, h 11, h 12, h 13⟩
theorem srow14 {w : World} {b m : Nat} {v0 v1 v2 v3 v4 v5 v6 v7 v8 v9 v10 v11 v12 v13 : Value} (h : ∀ j u, ([v0, v1, v2, v3, v4, v5, v6, v7, v8, v9, v10, v11, v12, v13] : List Value)[j]? = some u → w.cell? ⟨b, m + j, none⟩ = some u) :
  w.cell? ⟨b, m, none⟩ = some v0 ∧ w.cell? ⟨b, m + 1, none⟩ = some v1 ∧ w.cell? ⟨b, m + 2, none⟩ = some v2 ∧ w.cell? ⟨b, m + 3, none⟩ = some v3 ∧ w.cell? ⟨b, m + 4, none⟩ = some v4 ∧ w.cell? ⟨b, m + 5, none⟩ = some v5 ∧ w.cell? ⟨b, m + 6, none⟩ = some v6 ∧ w.cell? ⟨b, m + 7, none⟩ = some v7 ∧ w.cell? ⟨b, m + 8, none⟩ = some v8 ∧ w.cell? ⟨b, m + 9, none⟩ = some v9 ∧ w.cell? ⟨b, m + 10, none⟩ = some v10 ∧ w.cell? ⟨b, m + 11, none⟩ = some v11 ∧ w.cell? ⟨b, m + 12, none⟩ = some v12 ∧ w.cell? ⟨b, m + 13, none⟩ = some v13 :=
 ⟨h 0 _ rfl, h 1 _ rfl, h 2 _ rfl, h 3 _ rfl, h 4 _ rfl, h 5 _ rfl, h 6 _ rfl, h 7 _ rfl, h 8 _ rfl, h 9 _ rfl, h 10 _ rfl, h 11 _ rfl, h 12 _ rfl, h 13 _ rfl⟩
theorem row17 {w : World} {a : Nat} {v0 v1 v2 v3 v4 v5 v6 v7 v8 v9 v10 v11 v12 v13 v14 v15 v16 : Value} (h : ∀ i, w.cell? ⟨a, i, none⟩ = (#[v0, v1, v2, v3, v4, v5, v6, v7, v8, v9, v10, v11, v12, v13, v14, v15, v16] : Array Value)[i]?) :
  w.cell? ⟨a, 0, none⟩ = some v0 ∧ w.cell? ⟨a, 1, none⟩ = some v1 ∧ w.cell? ⟨a, 2, none⟩ = some v2 ∧ w.cell? ⟨a, 3, none⟩ = some v3 ∧ w.cell? ⟨a, 4, none⟩ = some v4 ∧ w.cell? ⟨a, 5, none⟩ = some v5 ∧ w.cell? ⟨a, 6, none⟩ = some v6 ∧ w.cell? ⟨a, 7, none⟩ = some v7 ∧ w.cell? ⟨a, 8, none⟩ = some v8 ∧ w.cell? ⟨a, 9, none⟩ = some v9 ∧ w.cell? ⟨a, 10, none⟩ = some v10 ∧ w.cell? ⟨a, 11, none⟩ = some v11 ∧ w.cell? ⟨a, 12, none⟩ = some v12 ∧ w.cell? ⟨a, 13, none⟩ = some v13 ∧ w.cell? ⟨a, 14, none⟩ = some v14 ∧ w.cell? ⟨a, 15, none⟩ = some v15 ∧ w.cell? ⟨a, 16, none⟩ = some v16 :=
 ⟨h 0, h 1, h 2, h 3, h 4, h 5, h 6, h 7, h 8, h 9, h 10, h 11, h 12, h 13, h 14, h 15, h 16⟩
theorem srow17 {w : World} {b m : Nat} {v0 v1 v2 v3 v4 v5 v6 v7 v8 v9 v10 v11 v12 v13 v14 v15 v16 : Value} (h : ∀ j u, ([v0, v1, v2, v3, v4, v5, v6, v7, v8, v9, v10, v11, v12, v13, v14, v15, v16] : List Value)[j]? = some u → w.cell? ⟨b, m + j, none⟩ = some u) :
  w.cell? ⟨b, m, none⟩ = some v0 ∧ w.cell? ⟨b, m + 1, none⟩ = some v1 ∧ w.cell? ⟨b, m + 2, none⟩ = some v2 ∧ w.cell? ⟨b, m + 3, none⟩ = some v3 ∧ w.cell? ⟨b, m + 4, none⟩ = some v4 ∧ w.cell? ⟨b, m + 5, none⟩ = some v5 ∧ w.cell? ⟨b, m + 6, none⟩ = some v6 ∧ w.cell? ⟨b, m + 7, none⟩ = some v7 ∧ w.cell? ⟨b, m + 8, none⟩ = some v8 ∧ w.cell? ⟨b, m + 9, none⟩ = some v9 ∧ w.cell? ⟨b, m + 10, none⟩ = some v10 ∧ w.cell? ⟨b, m + 11, none⟩ = some v11 ∧ w.cell? ⟨b, m + 12, none⟩ = some v12 ∧ w.cell? ⟨b, m + 13, none⟩ = some v13 ∧ w.cell? ⟨b, m + 14, none⟩ = some v14 ∧ w.cell? ⟨b, m + 15, none⟩ = some v15 ∧ w.cell? ⟨b, m + 16, none⟩ = some v16 :=
 ⟨h 0 _ rfl, h 1 _ rfl, h 2 _ rfl, h 3 _ rfl, h 4 _ rfl, h 5 _ rfl, h 6 _ rfl, h 7 _ rfl, h 8 _ rfl, h 9 _ rfl, h 10 _ rfl, h 11 _ rfl, h 12 _ rfl, h 13 _ rfl, h 14 _ rfl, h 15 _ rfl, h 16 _ rfl⟩
end Go.Proofs.YtbbdhknagofghaaGreat
/-! Programs as trees, and how they lie in memory. -/
namespace Go.Proofs.YtbbdhknagofghaaGreat
open Go.RowKit
/-- A width and a number's two halves. -/
abbrev Lt := Int × Int × Int
inductive Ex where
 | mk (op : Int) (lit : Lt) (head name : ByteArray) (hi lo : Int) (args : List Ex)
inductive St where
 | mk (kind : Int) (head name : ByteArray) (e : Ex) (thn els : List St)
theorem Ex.ind {P : Ex → Prop} (h : ∀ op lit head name hi lo args, (∀ x ∈ args, P x) → P (.mk op lit head name hi lo args)) : ∀ e, P e
 | .mk op lit head name hi lo args => h op lit head name hi lo args fun x _ => Ex.ind h x
theorem St.ind {P : St → Prop} (h : ∀ kind head name e thn els, (∀ x ∈ thn, P x) → (∀ x ∈ els, P x) → P (.mk kind head name e thn els)) : ∀ s, P s
 | .mk kind head name e thn els => h kind head name e thn els (fun x _ => St.ind h x) (fun x _ => St.ind h x)
def u64 (n : Int) : Prop := 0 ≤ n ∧ n < 18446744073709551616
def u8 (n : Int) : Prop := 0 ≤ n ∧ n < 256
def i64 (n : Int) : Prop := -9223372036854775808 ≤ n ∧ n < 9223372036854775808
def okLt (l : Lt) : Prop := i64 l.1 ∧ u64 l.2.1 ∧ u64 l.2.2
def ltC (l : Lt) : List Value := [.int .i64 l.1, .int .u64 l.2.1, .int .u64 l.2.2]
def rLt : CR Lt := fun _ _ cs l => cs = ltC l ∧ okLt l
theorem sta_lt : Sta rLt := ⟨fun h _ => h, fun h _ => h⟩
/-- An expression's cells. -/
def exC (op : Int) (lit : Lt) (head name : ByteArray) (hi lo : Int) (A : Option Addr) (n cap : Nat) : List Value :=
 [.int .u8 op, .int .i64 lit.1, .int .u64 lit.2.1, .int .u64 lit.2.2, .string head, .string name, .int .i64 hi, .int .i64 lo, .slice A n cap]
inductive RE (w : World) (B : Nat) : List Value → Ex → Prop
 | mk (op : Int) (lit : Lt) (head name : ByteArray) (hi lo : Int) (args : List Ex) (A : Option Addr) (cap b o : Nat) (C : Nat → List Value)
   (h0 : u8 op ∧ okLt lit ∧ head.size ≤ maxLen ∧ name.size ≤ maxLen ∧ i64 hi ∧ i64 lo) (hl : args.length ≤ maxLen)
   (hA : ∀ i, i < args.length → A = some ⟨b, o, none⟩ ∧ b < B ∧ (C i).length = 9 ∧ ∀ j u, (C i)[j]? = some u → w.cell? ⟨b, o + i * 9 + j, none⟩ = some u)
   (h : ∀ i x, args[i]? = some x → RE w B (C i) x) : RE w B (exC op lit head name hi lo A args.length cap) (.mk op lit head name hi lo args)
/-- How great a reading may be at most. -/
def sm : Nat := 1048576
mutual
def depthE : Ex → Nat
 | .mk _ _ _ _ _ _ args => depthL args + 1
def depthL : List Ex → Nat
 | [] => 0
 | x :: l => max (depthE x) (depthL l)
end
theorem depth_mem {x : Ex} : ∀ {l : List Ex}, x ∈ l → depthE x ≤ depthL l
 | [], h => by simp at h
 | y :: l, h => by
  simp only [depthL]
  rcases List.mem_cons.1 h with rfl | h
  ·omega
  ·have := depth_mem h; omega
def rEx : CR Ex := fun w B cs e => RE w B cs e ∧ depthE e ≤ sm
theorem RE.keep {w w' : World} {B : Nat} {cs : List Value} {x : Ex} (hk : ∀ p : Addr, p.block < B → w'.cell? p = w.cell? p) (h : RE w B cs x) : RE w' B cs x := by
 induction h with
 | mk op lit head name hi lo args A cap b o C h0 hl hA _ ih =>
  exact .mk op lit head name hi lo args A cap b o C h0 hl (fun i hi => ⟨(hA i hi).1, (hA i hi).2.1, (hA i hi).2.2.1, fun j u hu => (hk _ (hA i hi).2.1).trans ((hA i hi).2.2.2 j u hu)⟩) ih
theorem RE.more {w : World} {B B' : Nat} {cs : List Value} {x : Ex} (hB : B ≤ B') (h : RE w B cs x) : RE w B' cs x := by
 induction h with
 | mk op lit head name hi lo args A cap b o C h0 hl hA _ ih =>
  exact .mk op lit head name hi lo args A cap b o C h0 hl (fun i hi => ⟨(hA i hi).1, Nat.lt_of_lt_of_le (hA i hi).2.1 hB, (hA i hi).2.2⟩) ih
theorem sta_ex : Sta rEx := ⟨fun h hk => ⟨RE.keep hk h.1, h.2⟩, fun h hB => ⟨RE.more hB h.1, h.2⟩⟩
theorem RE.inv {w : World} {B : Nat} {cs : List Value} {op : Int} {lit : Lt} {head name : ByteArray} {hi lo : Int} {args : List Ex} (h : rEx w B cs (.mk op lit head name hi lo args)) :
  ∃ A cap, cs = exC op lit head name hi lo A args.length cap ∧ u8 op ∧ okLt lit ∧ head.size ≤ maxLen ∧ name.size ≤ maxLen ∧ i64 hi ∧ i64 lo ∧ Sl 9 rEx w B A args := by
 obtain ⟨h, hd⟩ := h
 cases h with
 | mk _ _ _ _ _ _ _ A cap b o C h0 hl hA h =>
  refine ⟨A, cap, rfl, h0.1, h0.2.1, h0.2.2.1, h0.2.2.2.1, h0.2.2.2.2.1, h0.2.2.2.2.2, hl, fun i x hx => ?_⟩
  have := hA i (List.getElem?_eq_some_iff.1 hx).1
  have hdx := depth_mem (List.mem_of_getElem? hx)
  simp only [depthE] at hd
  exact ⟨b, o, C i, this.1, this.2.1, this.2.2.1, this.2.2.2, h i x hx, by omega⟩
theorem exists_fun {α : Type} {p : Nat → α → Prop} (d : α) (n : Nat) (h : ∀ i, i < n → ∃ a, p i a) : ∃ C : Nat → α, ∀ i, i < n → p i (C i) :=
 ⟨fun i => if hi : i < n then (h i hi).choose else d, fun i hi => by show p i (if hi : i < n then (h i hi).choose else d); rw [dif_pos hi]; exact (h i hi).choose_spec⟩
/-- What a slice's rows are, with one base and the rows' cells chosen. -/
theorem Sl.rows {α : Type} {R : CR α} {k : Nat} {w : World} {B : Nat} {A : Option Addr} {xs : List α} (h : Sl k R w B A xs) :
  ∃ (b o : Nat) (C : Nat → List Value), (∀ i, i < xs.length → A = some ⟨b, o, none⟩ ∧ b < B ∧ (C i).length = k ∧ ∀ j u, (C i)[j]? = some u → w.cell? ⟨b, o + i * k + j, none⟩ = some u) ∧ ∀ i x, xs[i]? = some x → R w B (C i) x := by
 by_cases hz : 0 < xs.length
 ·obtain ⟨b, o, _, hA, hb, _⟩ := h.2 0 _ (List.getElem?_eq_getElem hz)
  obtain ⟨C, hC⟩ := exists_fun (p := fun i cs => cs.length = k ∧ (∀ j u, cs[j]? = some u → w.cell? ⟨b, o + i * k + j, none⟩ = some u) ∧ ∀ x, xs[i]? = some x → R w B cs x) [] xs.length (fun i hi => by
   obtain ⟨b', o', ecs, hA', hb', hl, hc, hr⟩ := h.2 i _ (List.getElem?_eq_getElem hi)
   rw [hA] at hA'
   injection hA' with hA'
   injection hA' with e1 e2
   subst e1 e2
   exact ⟨ecs, hl, hc, fun x hx => by rw [List.getElem?_eq_getElem hi] at hx; injection hx with hx; subst hx; exact hr⟩)
  exact ⟨b, o, C, fun i hi => ⟨hA, hb, (hC i hi).1, (hC i hi).2.1⟩, fun i x hx => (hC i (List.getElem?_eq_some_iff.1 hx).1).2.2 x hx⟩
 ·exact ⟨0, 0, fun _ => [], fun i hi => absurd hi (by omega), fun i x hx => absurd (List.getElem?_eq_some_iff.1 hx).1 (by omega)⟩
theorem RE.intro {w : World} {B : Nat} {op : Int} {lit : Lt} {head name : ByteArray} {hi lo : Int} {args : List Ex} {A : Option Addr} {cap : Nat}
  (h0 : u8 op ∧ okLt lit ∧ head.size ≤ maxLen ∧ name.size ≤ maxLen ∧ i64 hi ∧ i64 lo) (hd : depthL args < sm) (h : Sl 9 rEx w B A args) : rEx w B (exC op lit head name hi lo A args.length cap) (.mk op lit head name hi lo args) := by
 obtain ⟨b, o, C, hA, hC⟩ := h.rows
 exact ⟨.mk op lit head name hi lo args A cap b o C h0 h.1 hA fun i x hx => (hC i x hx).1, by simp only [depthE]; omega⟩
/-- A statement's cells. -/
def stC (kind : Int) (head name : ByteArray) (ecs : List Value) (A : Option Addr) (n cap : Nat) (A' : Option Addr) (n' cap' : Nat) : List Value :=
 .int .u8 kind :: .string head :: .string name :: (ecs ++ [.slice A n cap, .slice A' n' cap'])
inductive RS (w : World) (B : Nat) : List Value → St → Prop
 | mk (kind : Int) (head name : ByteArray) (e : Ex) (thn els : List St) (ecs : List Value) (A A' : Option Addr) (cap cap' b o b' o' : Nat) (C C' : Nat → List Value)
   (h0 : u8 kind ∧ head.size ≤ sm ∧ name.size ≤ sm) (hz : thn.length ≤ sm ∧ els.length ≤ sm) (he : RE w B ecs e ∧ depthE e ≤ sm) (hl : thn.length ≤ maxLen) (hl' : els.length ≤ maxLen)
   (hA : ∀ i, i < thn.length → A = some ⟨b, o, none⟩ ∧ b < B ∧ (C i).length = 14 ∧ ∀ j u, (C i)[j]? = some u → w.cell? ⟨b, o + i * 14 + j, none⟩ = some u)
   (hA' : ∀ i, i < els.length → A' = some ⟨b', o', none⟩ ∧ b' < B ∧ (C' i).length = 14 ∧ ∀ j u, (C' i)[j]? = some u → w.cell? ⟨b', o' + i * 14 + j, none⟩ = some u)
   (h : ∀ i x, thn[i]? = some x → RS w B (C i) x) (h' : ∀ i x, els[i]? = some x → RS w B (C' i) x) :
   RS w B (stC kind head name ecs A thn.length cap A' els.length cap') (.mk kind head name e thn els)
def rSt : CR St := fun w B cs s => RS w B cs s
theorem RS.keep {w w' : World} {B : Nat} {cs : List Value} {x : St} (hk : ∀ p : Addr, p.block < B → w'.cell? p = w.cell? p) (h : RS w B cs x) : RS w' B cs x := by
 induction h with
 | mk kind head name e thn els ecs A A' cap cap' b o b' o' C C' h0 hz he hl hl' hA hA' _ _ ih ih' =>
  exact .mk kind head name e thn els ecs A A' cap cap' b o b' o' C C' h0 hz ⟨he.1.keep hk, he.2⟩ hl hl' (fun i hi => ⟨(hA i hi).1, (hA i hi).2.1, (hA i hi).2.2.1, fun j u hu => (hk _ (hA i hi).2.1).trans ((hA i hi).2.2.2 j u hu)⟩)
   (fun i hi => ⟨(hA' i hi).1, (hA' i hi).2.1, (hA' i hi).2.2.1, fun j u hu => (hk _ (hA' i hi).2.1).trans ((hA' i hi).2.2.2 j u hu)⟩) ih ih'
theorem RS.more {w : World} {B B' : Nat} {cs : List Value} {x : St} (hB : B ≤ B') (h : RS w B cs x) : RS w B' cs x := by
 induction h with
 | mk kind head name e thn els ecs A A' cap cap' b o b' o' C C' h0 hz he hl hl' hA hA' _ _ ih ih' =>
  exact .mk kind head name e thn els ecs A A' cap cap' b o b' o' C C' h0 hz ⟨he.1.more hB, he.2⟩ hl hl' (fun i hi => ⟨(hA i hi).1, Nat.lt_of_lt_of_le (hA i hi).2.1 hB, (hA i hi).2.2⟩)
   (fun i hi => ⟨(hA' i hi).1, Nat.lt_of_lt_of_le (hA' i hi).2.1 hB, (hA' i hi).2.2⟩) ih ih'
theorem sta_st : Sta rSt := ⟨fun h hk => RS.keep hk h, fun h hB => RS.more hB h⟩
theorem RS.inv {w : World} {B : Nat} {cs : List Value} {kind : Int} {head name : ByteArray} {e : Ex} {thn els : List St} (h : rSt w B cs (.mk kind head name e thn els)) :
  ∃ ecs A cap A' cap', cs = stC kind head name ecs A thn.length cap A' els.length cap' ∧ u8 kind ∧ head.size ≤ sm ∧ name.size ≤ sm ∧ rEx w B ecs e ∧ Sl 14 rSt w B A thn ∧ Sl 14 rSt w B A' els := by
 cases h with
 | mk _ _ _ _ _ _ ecs A A' cap cap' b o b' o' C C' h0 hz he hl hl' hA hA' h h' =>
  refine ⟨ecs, A, cap, A', cap', rfl, h0.1, h0.2.1, h0.2.2, he, ⟨hl, fun i x hx => ?_⟩, ⟨hl', fun i x hx => ?_⟩⟩
  ·have := hA i (List.getElem?_eq_some_iff.1 hx).1
   exact ⟨b, o, C i, this.1, this.2.1, this.2.2.1, this.2.2.2, h i x hx⟩
  ·have := hA' i (List.getElem?_eq_some_iff.1 hx).1
   exact ⟨b', o', C' i, this.1, this.2.1, this.2.2.1, this.2.2.2, h' i x hx⟩
/-- A statement's bodies are short. -/
theorem RS.small {w : World} {B : Nat} {cs : List Value} {kind : Int} {head name : ByteArray} {e : Ex} {thn els : List St} (h : rSt w B cs (.mk kind head name e thn els)) : thn.length ≤ sm ∧ els.length ≤ sm := by
 cases h with
 | mk _ _ _ _ _ _ ecs A A' cap cap' b o b' o' C C' h0 hz he hl hl' hA hA' h h' => exact hz
theorem RS.intro {w : World} {B : Nat} {kind : Int} {head name : ByteArray} {e : Ex} {thn els : List St} {ecs : List Value} {A A' : Option Addr} {cap cap' : Nat}
  (h0 : u8 kind ∧ head.size ≤ sm ∧ name.size ≤ sm) (hz : thn.length ≤ sm ∧ els.length ≤ sm) (he : rEx w B ecs e) (h : Sl 14 rSt w B A thn) (h' : Sl 14 rSt w B A' els) :
  rSt w B (stC kind head name ecs A thn.length cap A' els.length cap') (.mk kind head name e thn els) := by
 obtain ⟨b, o, C, hA, hC⟩ := h.rows
 obtain ⟨b', o', C', hA', hC'⟩ := h'.rows
 exact .mk kind head name e thn els ecs A A' cap cap' b o b' o' C C' h0 hz he h.1 h'.1 hA hA' hC hC'
/-- A name and a width. -/
abbrev Fd := ByteArray × Int
def rFd : CR Fd := fun _ _ cs f => cs = [.string f.1, .int .i64 f.2] ∧ f.1.size ≤ maxLen ∧ i64 f.2
theorem sta_fd : Sta rFd := ⟨fun h _ => h, fun h _ => h⟩
structure Hd where
 name : ByteArray
 fields : List Fd
def rHd : CR Hd := fun w B cs h => ∃ A cap, cs = [.string h.name, .slice A h.fields.length cap] ∧ h.name.size ≤ maxLen ∧ Sl 2 rFd w B A h.fields
theorem sta_hd : Sta rHd := ⟨fun ⟨A, cap, e, hn, h⟩ hk => ⟨A, cap, e, hn, h.keep sta_fd hk⟩, fun ⟨A, cap, e, hn, h⟩ hB => ⟨A, cap, e, hn, h.more sta_fd hB⟩⟩
structure Se where
 kind : Int
 v : Lt
 m : Lt
def rSe : CR Se := fun _ _ cs s => cs = .int .u8 s.kind :: (ltC s.v ++ ltC s.m) ∧ u8 s.kind ∧ okLt s.v ∧ okLt s.m
theorem sta_se : Sta rSe := ⟨fun h _ => h, fun h _ => h⟩
structure Ca where
 dflt : Bool
 sets : List Se
 dest : ByteArray
def rCa : CR Ca := fun w B cs c => ∃ A cap, cs = [.bool c.dflt, .slice A c.sets.length cap, .string c.dest] ∧ c.dest.size ≤ maxLen ∧ Sl 7 rSe w B A c.sets
theorem sta_ca : Sta rCa := ⟨fun ⟨A, cap, e, hn, h⟩ hk => ⟨A, cap, e, hn, h.keep sta_se hk⟩, fun ⟨A, cap, e, hn, h⟩ hB => ⟨A, cap, e, hn, h.more sta_se hB⟩⟩
structure Sa where
 name : ByteArray
 takes : List ByteArray
 dest : ByteArray
 keys : List Ex
 cases_ : List Ca
def rSa : CR Sa := fun w B cs s => ∃ A1 c1 A2 c2 A3 c3, cs = [.string s.name, .slice A1 s.takes.length c1, .string s.dest, .slice A2 s.keys.length c2, .slice A3 s.cases_.length c3] ∧ s.name.size ≤ maxLen ∧ s.dest.size ≤ maxLen ∧
 Sl 1 rStr w B A1 s.takes ∧ Sl 9 rEx w B A2 s.keys ∧ Sl 3 rCa w B A3 s.cases_
theorem sta_sa : Sta rSa := ⟨fun ⟨A1, c1, A2, c2, A3, c3, e, hn, hd, h1, h2, h3⟩ hk => ⟨A1, c1, A2, c2, A3, c3, e, hn, hd, h1.keep sta_str hk, h2.keep sta_ex hk, h3.keep sta_ca hk⟩,
 fun ⟨A1, c1, A2, c2, A3, c3, e, hn, hd, h1, h2, h3⟩ hB => ⟨A1, c1, A2, c2, A3, c3, e, hn, hd, h1.more sta_str hB, h2.more sta_ex hB, h3.more sta_ca hB⟩⟩
structure Ac where
 name : ByteArray
 params : List Fd
 body : List St
def rAc : CR Ac := fun w B cs a => ∃ A1 c1 A2 c2, cs = [.string a.name, .slice A1 a.params.length c1, .slice A2 a.body.length c2] ∧ a.name.size ≤ maxLen ∧ Sl 2 rFd w B A1 a.params ∧ Sl 14 rSt w B A2 a.body
theorem sta_ac : Sta rAc := ⟨fun ⟨A1, c1, A2, c2, e, hn, h1, h2⟩ hk => ⟨A1, c1, A2, c2, e, hn, h1.keep sta_fd hk, h2.keep sta_st hk⟩, fun ⟨A1, c1, A2, c2, e, hn, h1, h2⟩ hB => ⟨A1, c1, A2, c2, e, hn, h1.more sta_fd hB, h2.more sta_st hB⟩⟩
structure Ky where
 e : Ex
 kind : Int
def rKy : CR Ky := fun w B cs k => ∃ ecs, cs = ecs ++ [.int .u8 k.kind] ∧ u8 k.kind ∧ rEx w B ecs k.e
theorem sta_ky : Sta rKy := ⟨fun ⟨ecs, e, hk, h⟩ hk' => ⟨ecs, e, hk, sta_ex.keep h hk'⟩, fun ⟨ecs, e, hk, h⟩ hB => ⟨ecs, e, hk, sta_ex.more h hB⟩⟩
structure Ta where
 name : ByteArray
 keys : List Ky
 actions : List ByteArray
 dname : ByteArray
 dargs : List Lt
def rTa : CR Ta := fun w B cs t => ∃ A1 c1 A2 c2 A3 c3, cs = [.string t.name, .slice A1 t.keys.length c1, .slice A2 t.actions.length c2, .string t.dname, .slice A3 t.dargs.length c3] ∧ t.name.size ≤ maxLen ∧ t.dname.size ≤ maxLen ∧
 Sl 10 rKy w B A1 t.keys ∧ Sl 1 rStr w B A2 t.actions ∧ Sl 3 rLt w B A3 t.dargs
theorem sta_ta : Sta rTa := ⟨fun ⟨A1, c1, A2, c2, A3, c3, e, hn, hd, h1, h2, h3⟩ hk => ⟨A1, c1, A2, c2, A3, c3, e, hn, hd, h1.keep sta_ky hk, h2.keep sta_str hk, h3.keep sta_lt hk⟩,
 fun ⟨A1, c1, A2, c2, A3, c3, e, hn, hd, h1, h2, h3⟩ hB => ⟨A1, c1, A2, c2, A3, c3, e, hn, hd, h1.more sta_ky hB, h2.more sta_str hB, h3.more sta_lt hB⟩⟩
structure Pg where
 headers : List Hd
 metas : List Fd
 states : List Sa
 actions : List Ac
 tables : List Ta
 control : List St
 emit : List ByteArray
/-- A program's seven slices lie. -/
structure PgS (w : World) (B : Nat) (A1 A2 A3 A4 A5 A6 A7 : Option Addr) (p : Pg) : Prop where
 headers : Sl 2 rHd w B A1 p.headers
 metas : Sl 2 rFd w B A2 p.metas
 states : Sl 5 rSa w B A3 p.states
 actions : Sl 3 rAc w B A4 p.actions
 tables : Sl 5 rTa w B A5 p.tables
 control : Sl 14 rSt w B A6 p.control
 emit : Sl 1 rStr w B A7 p.emit
def pgC (p : Pg) (A1 A2 A3 A4 A5 A6 A7 : Option Addr) (c1 c2 c3 c4 c5 c6 c7 : Nat) : List Value :=
 [.slice A1 p.headers.length c1, .slice A2 p.metas.length c2, .slice A3 p.states.length c3, .slice A4 p.actions.length c4, .slice A5 p.tables.length c5, .slice A6 p.control.length c6, .slice A7 p.emit.length c7]
theorem PgS.keep {w w' : World} {B : Nat} {A1 A2 A3 A4 A5 A6 A7 : Option Addr} {p : Pg} (h : PgS w B A1 A2 A3 A4 A5 A6 A7 p) (hk : ∀ p : Addr, p.block < B → w'.cell? p = w.cell? p) : PgS w' B A1 A2 A3 A4 A5 A6 A7 p :=
 ⟨h.1.keep sta_hd hk, h.2.keep sta_fd hk, h.3.keep sta_sa hk, h.4.keep sta_ac hk, h.5.keep sta_ta hk, h.6.keep sta_st hk, h.7.keep sta_str hk⟩
theorem PgS.below {w w' : World} {B : Nat} {A1 A2 A3 A4 A5 A6 A7 : Option Addr} {p : Pg} (h : PgS w B A1 A2 A3 A4 A5 A6 A7 p) (hb : Below B w w') : PgS w' B A1 A2 A3 A4 A5 A6 A7 p := h.keep fun _ hp => hb.cell hp
end Go.Proofs.YtbbdhknagofghaaGreat

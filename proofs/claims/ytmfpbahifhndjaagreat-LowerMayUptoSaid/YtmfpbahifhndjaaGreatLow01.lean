import Derived.Test.YtmfpbahifhndjaaGreatRows
import Derived.WalkKit
import Derived.WalkSpells
import Derived.WalkLawsBesides
import Derived.Deep.QuietTactic
import Derived.BigQuiet
import Derived.Maps.AppendAt
import Derived.Deep.AppendLies
import Derived.RegionTactic
import Derived.OwnWalk
import Derived.Lib.QuietBelow
set_option linter.all false
namespace Go.Proofs.YtmfpbahifhndjaaGreat
open Go.RowKit
theorem hide {p : Prop} (h : p) : Hid p := h
abbrev CR (α : Type) := World → Nat → List Value → α → Prop
structure Sta {α : Type} (R : CR α) : Prop where
 keep : ∀ {w w' : World} {B : Nat} {cs : List Value} {x : α}, R w B cs x → (∀ p : Addr, p.block < B → w'.cell? p = w.cell? p) → R w' B cs x
 more : ∀ {w : World} {B B' : Nat} {cs : List Value} {x : α}, R w B cs x → B ≤ B' → R w B' cs x
def rInt : CR Int := fun _ _ cs x => cs = [.int .i64 x]
def rStr : CR ByteArray := fun _ _ cs s => cs = [.string s] ∧ s.size ≤ maxLen
theorem sta_int : Sta rInt := ⟨fun h _ => h, fun h _ => h⟩
theorem sta_str : Sta rStr := ⟨fun h _ => h, fun h _ => h⟩
section
variable {α : Type} {R : CR α} {k : Nat} {w w' : World} {B B' : Nat} {A : Option Addr} {xs : List α}
def Sl (k : Nat) (R : CR α) (w : World) (B : Nat) (A : Option Addr) (xs : List α) : Prop :=
 xs.length ≤ maxLen ∧ ∀ i x, xs[i]? = some x → ∃ b o ecs, A = some ⟨b, o, none⟩ ∧ b < B ∧ ecs.length = k ∧ (∀ j u, ecs[j]? = some u → w.cell? ⟨b, o + i * k + j, none⟩ = some u) ∧ R w B ecs x
def rSl (k : Nat) (R : CR α) : CR (List α) := fun w B cs xs => ∃ A cap, cs = [.slice A xs.length cap] ∧ Sl k R w B A xs
theorem Sl.keep (hs : Sta R) (h : Sl k R w B A xs) (hk : ∀ p : Addr, p.block < B → w'.cell? p = w.cell? p) : Sl k R w' B A xs :=
 ⟨h.1, fun i x hx => by
  obtain ⟨b, o, ecs, hA, hb, hl, hc, hr⟩ := h.2 i x hx
  exact ⟨b, o, ecs, hA, hb, hl, fun j u hu => (hk _ hb).trans (hc j u hu), hs.keep hr hk⟩⟩
theorem Sl.more (hs : Sta R) (h : Sl k R w B A xs) (hB : B ≤ B') : Sl k R w B' A xs :=
 ⟨h.1, fun i x hx => by
  obtain ⟨b, o, ecs, hA, hb, hl, hc, hr⟩ := h.2 i x hx
  exact ⟨b, o, ecs, hA, by omega, hl, hc, hs.more hr hB⟩⟩
theorem sta_sl (hs : Sta R) : Sta (rSl k R) :=
 ⟨fun ⟨A, cap, hc, h⟩ hk => ⟨A, cap, hc, h.keep hs hk⟩, fun ⟨A, cap, hc, h⟩ hB => ⟨A, cap, hc, h.more hs hB⟩⟩
theorem Sl.below (hs : Sta R) (h : Sl k R w B A xs) (hb : Below B w w') : Sl k R w' B A xs := h.keep hs fun _ hp => hb.cell hp
theorem Sl.alloc (hs : Sta R) (h : Sl k R w B A xs) (hB : B ≤ w.heap.size) (o : Obj) : Sl k R (w.alloc o) B A xs := h.keep hs fun p hp => World.cell?_alloc_lt w o p (by omega)
theorem Sl.nil_ : Sl k R w B A ([] : List α) := ⟨by simp, fun i x hx => by simp at hx⟩
theorem Sl.len (h : Sl k R w B A xs) : xs.length ≤ 9223372036854775807 := h.1
theorem Sl.at1 (h : Sl 1 R w B A xs) {i : Nat} (hi : i < xs.length) : ∃ b o u, A = some ⟨b, o, none⟩ ∧ b < B ∧ w.cell? ⟨b, o + i, none⟩ = some u ∧ R w B [u] xs[i] := by
 obtain ⟨b, o, ecs, hA, hb, hl, hc, hr⟩ := h.2 i xs[i] (List.getElem?_eq_getElem hi)
 match ecs, hl with
 | [u], _ =>
  have := hc 0 u rfl
  exact ⟨b, o, u, hA, hb, by simpa using this, hr⟩
theorem Sl.int {xs : List Int} (h : Sl 1 rInt w B A xs) {i : Nat} (hi : i < xs.length) : ∃ b o, A = some ⟨b, o, none⟩ ∧ b < B ∧ w.cell? ⟨b, o + i, none⟩ = some (.int .i64 xs[i]) := by
 obtain ⟨b, o, u, hA, hb, hc, hr⟩ := h.at1 hi
 cases hr
 exact ⟨b, o, hA, hb, hc⟩
theorem Sl.ints {xs : List (List Int)} (h : Sl 1 (rSl 1 rInt) w B A xs) {i : Nat} (hi : i < xs.length) : ∃ b o A' cap', A = some ⟨b, o, none⟩ ∧ b < B ∧ w.cell? ⟨b, o + i, none⟩ = some (.slice A' xs[i].length cap') ∧ Sl 1 rInt w B A' xs[i] := by
 obtain ⟨b, o, u, hA, hb, hc, A', cap', hr, hs⟩ := h.at1 hi
 cases hr
 exact ⟨b, o, A', cap', hA, hb, hc, hs⟩
end
theorem any_take_succ {α : Type} {p : α → Bool} {xs : List α} {k : Nat} (hlt : k < xs.length) (hc : (xs.take k).any p = false) (he : p xs[k] = false) : (xs.take (k + 1)).any p = false := by
 rw [List.take_succ_eq_append_getElem hlt, List.any_append, hc]; simp [he]
theorem any_of_getElem {α : Type} {p : α → Bool} {xs : List α} {k : Nat} (hlt : k < xs.length) (he : p xs[k] = true) : xs.any p = true :=
 List.any_eq_true.2 ⟨xs[k], List.getElem_mem _, he⟩
theorem any_of_take {α : Type} {p : α → Bool} {xs : List α} {k : Nat} (hk : k ≤ xs.length) (hn : ¬ k < xs.length) (hc : (xs.take k).any p = false) : xs.any p = false := by
 rwa [List.take_of_length_le (by omega)] at hc
theorem ret_bool {a b : Bool} (h : a = true ↔ b = true) : Ending.returned (.bool a) = .returned (.bool b) := by rw [Bool.eq_iff_iff.2 h]
theorem ret_b {a b : Bool} (h : a = b) : Ending.returned (.bool a) = .returned (.bool b) := by rw [h]
theorem ret_int {k : IntKind} {a b : Int} (h : a = b) : Ending.returned (.int k a) = .returned (.int k b) := by rw [h]
theorem below_drewN {B : Nat} {a w : World} (h : Below B a w) (n : Nat) : Below B a (w.drewN n) := ⟨h.os, h.tape, h.output, h.size, h.block⟩
theorem quiet_same {P : Program} {f : FuncId} {args : Array Value} {w : World} {n : Nat} {v : Value}
  (h : Calls P f args (w.drewN n) fun e w' => e = .returned v ∧ w.drewN n = w') : Calls P f args (w.drewN n) fun e w'' => e = .returned v ∧ ∃ m, w'' = w.drewN m :=
 h.mono fun _ _ ⟨he, hm⟩ => ⟨he, n, hm.symm⟩
theorem quiet_add_same {P : Program} {f : FuncId} {args : Array Value} {w : World} {a n : Nat} {v : Value}
  (h : Calls P f args (w.drewN (a + n)) fun e w' => e = .returned v ∧ w.drewN (a + n) = w') :
  Calls P f args (w.drewN (a + n)) fun e w'' => e = .returned v ∧ ∃ m, w'' = w.drewN (a + m) :=
 h.mono fun _ _ ⟨he, hm⟩ => ⟨he, n, hm.symm⟩
theorem Sl.drewN {α : Type} {R : CR α} {k : Nat} {w : World} {B : Nat} {A : Option Addr} {xs : List α} (hs : Sta R) (h : Sl k R w B A xs) (n : Nat) : Sl k R (w.drewN n) B A xs := h.keep hs fun _ _ => rfl
theorem str_beq (a b : ByteArray) : (a.toList == b.toList) = decide (a = b) := by
 rw [ByteArray.toList_eq, ByteArray.toList_eq, Bool.eq_iff_iff]
 simp only [beq_iff_eq, decide_eq_true_eq]
 exact ⟨fun h => Go.WideShapes.bytes_inj h, fun h => by rw [h]⟩
theorem notMem_take_snoc {α : Type} {xs : List α} {n : α} {k : Nat} (hlt : k < xs.length) (hc : n ∉ xs.take k) (he : ¬ xs[k] = n) : n ∉ xs.take (k + 1) := by
 rw [List.take_succ_eq_append_getElem hlt]
 intro h
 rcases List.mem_append.1 h with h | h
 ·exact hc h
 ·rw [List.mem_singleton] at h
  exact he h.symm
theorem notMem_of_take {α : Type} {xs : List α} {n : α} {k : Nat} (hk : k ≤ xs.length) (hn : ¬ k < xs.length) (hc : n ∉ xs.take k) : n ∉ xs := by
 rwa [List.take_of_length_le (by omega)] at hc
def idx {α : Type} [DecidableEq α] : List α → α → Nat
 | [], _ => 0
 | x :: l, a => if x = a then 0 else idx l a + 1
def findI {α : Type} [DecidableEq α] (l : List α) (a : α) : Int := if a ∈ l then (idx l a : Nat) else -1
theorem idx_at {α : Type} [DecidableEq α] (a : α) : ∀ (l : List α) (k : Nat) (hk : k < l.length), a ∉ l.take k → l[k] = a → idx l a = k
 | [], k, hk, _, _ => absurd hk (by simp)
 | x :: l, 0, _, _, he => by simp at he; simp [idx, he]
 | x :: l, k + 1, hk, hn, he => by
  simp only [List.take_succ_cons, List.mem_cons, not_or] at hn
  have h1 : ¬ x = a := fun e => hn.1 e.symm
  simp only [idx, if_neg h1]
  rw [idx_at a l k (by simpa using hk) hn.2 (by simpa using he)]
theorem findI_at {α : Type} [DecidableEq α] {a : α} {l : List α} {k : Nat} (hk : k < l.length) (hn : a ∉ l.take k) (he : l[k] = a) : findI l a = (k : Int) := by
 unfold findI
 rw [if_pos (by rw [← he]; exact List.getElem_mem _), idx_at a l k hk hn he]
theorem findI_no {α : Type} [DecidableEq α] {a : α} {l : List α} (h : a ∉ l) : findI l a = -1 := by unfold findI; rw [if_neg h]
theorem idx_le {α : Type} [DecidableEq α] (l : List α) (k : Nat) (hk : k < l.length) : idx l l[k] ≤ k := by
 induction l generalizing k with
 | nil => simp at hk
 | cons x l ih =>
  simp only [idx]
  cases k with
  | zero => simp
  | succ k =>
   simp only [List.getElem_cons_succ]
   split
   ·omega
   ·have := ih k (by simpa using hk); omega
theorem findI_self {α : Type} [DecidableEq α] {l : List α} {k : Nat} (hk : k < l.length) : findI l l[k] = (k : Int) ↔ l[k] ∉ l.take k := by
 constructor
 ·intro h hm
  obtain ⟨i, hi, he⟩ := List.getElem_of_mem hm
  rw [List.length_take] at hi
  rw [List.getElem_take] at he
  have h2 := idx_le l i (by omega)
  rw [he] at h2
  unfold findI at h
  rw [if_pos (List.getElem_mem _)] at h
  omega
 ·intro h; exact findI_at hk h rfl
theorem findI_le {α : Type} [DecidableEq α] {l : List α} {k : Nat} (hk : k < l.length) : findI l l[k] ≤ (k : Int) ∧ 0 ≤ findI l l[k] := by
 unfold findI
 rw [if_pos (List.getElem_mem _)]
 have := idx_le l k hk
 omega
theorem idx_lt {α : Type} [DecidableEq α] (a : α) : ∀ (l : List α), a ∈ l → idx l a < l.length
 | [], h => by simp at h
 | x :: l, h => by
  simp only [idx]
  by_cases e : x = a
  ·rw [if_pos e]; simp
  ·rw [if_neg e]
   rcases List.mem_cons.1 h with h | h
   ·exact absurd h.symm e
   ·have := idx_lt a l h; simp; omega
theorem bcell {W w1 : World} (hb : Below W.heap.size W w1) : (∀ b o, b < W.heap.size → w1.cell? ⟨b, o, none⟩ = W.cell? ⟨b, o, none⟩) ∧ (∀ b o, b < W.heap.size → w1.frozen? ⟨b, o, none⟩ = W.frozen? ⟨b, o, none⟩) ∧ W.heap.size ≤ w1.heap.size :=
 ⟨fun b o h => hb.cell (p := ⟨b, o, none⟩) h, fun b o h => hb.frozen (p := ⟨b, o, none⟩) h, hb.size⟩
theorem below_of_regrown {W w1 : World} (h : ∃ p : Regrown, w1 = Go.Sort.grow (redrawn W p.d) p.os) : Below W.heap.size W w1 := by
 obtain ⟨p, rfl⟩ := h; exact below_regrown _ _ _
theorem gsize (W : World) (d : Nat) (os : Array Obj) : W.heap.size ≤ (Go.Sort.grow (redrawn W d) os).heap.size := (below_regrown W d os).size
theorem box1 (w : World) (cs : Array Value) (t : TypeId) : ∃ wb, w.alloc (.cells cs t) = wb ∧ wb.heap.size = w.heap.size + 1 ∧ Below w.heap.size w wb ∧ (∀ i, wb.cell? ⟨w.heap.size, i, none⟩ = cs[i]?) ∧ (∀ i, wb.frozen? ⟨w.heap.size, i, none⟩ = false) :=
 ⟨_, rfl, by simp, (Below.refl _ _).alloc (Nat.le_refl _) _, fun _ => World.cell?_alloc_at _ _ _ _ rfl, fun _ => World.frozen?_alloc_at _ _ _ _ rfl⟩
theorem gcell' {B : Nat} {wb wr : World} (h : Below B wb wr) (hz : B ≤ wr.heap.size) : ∀ d os b o, b < B → (Go.Sort.grow (redrawn wr d) os).cell? ⟨b, o, none⟩ = wb.cell? ⟨b, o, none⟩ :=
 fun d os b o hb => ((below_regrown wr d os).cell (p := ⟨b, o, none⟩) (Nat.lt_of_lt_of_le hb hz)).trans (h.cell hb)
theorem bcell' {B : Nat} {wb wr : World} (h : Below B wb wr) : (∀ b o, b < B → wr.cell? ⟨b, o, none⟩ = wb.cell? ⟨b, o, none⟩) ∧ (∀ b o, b < B → wr.frozen? ⟨b, o, none⟩ = wb.frozen? ⟨b, o, none⟩) :=
 ⟨fun b o hb => h.cell (p := ⟨b, o, none⟩) hb, fun b o hb => h.frozen (p := ⟨b, o, none⟩) hb⟩
theorem below_grow {B : Nat} {wb wr : World} (h : Below B wb wr) (hz : B ≤ wr.heap.size) (d : Nat) (os : Array Obj) : Below B wb (Go.Sort.grow (redrawn wr d) os) := h.trans ((below_regrown wr d os).mono hz)
theorem flatMap_get {α : Type} {f : α → List Value} {k : Nat} (hf : ∀ x, (f x).length = k) : ∀ (xs : List α) (i j : Nat) (x : α) (u : Value), xs[i]? = some x → (f x)[j]? = some u → (xs.flatMap f)[i * k + j]? = some u
 | [], i, j, x, u, h, _ => by simp at h
 | y :: xs, 0, j, x, u, h, hu => by
  simp at h; subst h
  have : j < (f y).length := (List.getElem?_eq_some_iff.1 hu).1
  simp [List.flatMap_cons, List.getElem?_append_left this, hu]
 | y :: xs, i + 1, j, x, u, h, hu => by
  have ih := flatMap_get hf xs i j x u (by simpa using h) hu
  have hy := hf y
  rw [List.flatMap_cons, List.getElem?_append_right (by rw [hy, Nat.add_mul]; omega), ← ih]
  congr 1
  rw [hy, Nat.add_mul]; omega
theorem own_sl {α : Type} {R : CR α} {k base : Nat} {e : TypeId} {w : World} {v : Value} {xs : List α} {f : α → List Value} (hf : ∀ x, (f x).length = k) (hR : ∀ x ∈ xs, R w w.heap.size (f x) x)
  (h : w.ownsRow base e k v xs.length (xs.flatMap f)) : ∃ A cap, v = .slice A xs.length cap ∧ Sl k R w w.heap.size A xs := by
 rcases h.2 with ⟨rfl, hz⟩ | ⟨g, cap, cur, rfl, hb, hg, hl, hm, -⟩
 ·have hz' : xs = [] := List.eq_nil_of_length_eq_zero hz
  subst hz'
  exact ⟨none, 0, rfl, Sl.nil_⟩
 ·refine ⟨some ⟨g, 0, none⟩, cap, rfl, by omega, fun i x hx => ⟨g, 0, f x, rfl, (h.lt g rfl).2, hf x, fun j u hu => ?_, hR x (List.mem_of_getElem? hx)⟩⟩
  have := h.cells (g := g) rfl (i * k + j) u (flatMap_get hf xs i j x u hx hu)
  have e : (⟨g, 0, none⟩ : Addr).add (i * k + j) = ⟨g, 0 + i * k + j, none⟩ := by unfold Addr.add; split <;> simp_all <;> omega
  rw [← e]; exact this
theorem row3 {w : World} {a : Nat} {v0 v1 v2 : Value} (h : ∀ i, w.cell? ⟨a, i, none⟩ = (#[v0, v1, v2] : Array Value)[i]?) :
  w.cell? ⟨a, 0, none⟩ = some v0 ∧ w.cell? ⟨a, 1, none⟩ = some v1 ∧ w.cell? ⟨a, 2, none⟩ = some v2 :=
 ⟨h 0, h 1, h 2⟩
theorem srow3 {w : World} {b m : Nat} {v0 v1 v2 : Value} (h : ∀ j u, ([v0, v1, v2] : List Value)[j]? = some u → w.cell? ⟨b, m + j, none⟩ = some u) :
  w.cell? ⟨b, m, none⟩ = some v0 ∧ w.cell? ⟨b, m + 1, none⟩ = some v1 ∧ w.cell? ⟨b, m + 2, none⟩ = some v2 :=
 ⟨h 0 _ rfl, h 1 _ rfl, h 2 _ rfl⟩
theorem row4 {w : World} {a : Nat} {v0 v1 v2 v3 : Value} (h : ∀ i, w.cell? ⟨a, i, none⟩ = (#[v0, v1, v2, v3] : Array Value)[i]?) :
  w.cell? ⟨a, 0, none⟩ = some v0 ∧ w.cell? ⟨a, 1, none⟩ = some v1 ∧ w.cell? ⟨a, 2, none⟩ = some v2 ∧ w.cell? ⟨a, 3, none⟩ = some v3 :=
 ⟨h 0, h 1, h 2, h 3⟩
theorem row5 {w : World} {a : Nat} {v0 v1 v2 v3 v4 : Value} (h : ∀ i, w.cell? ⟨a, i, none⟩ = (#[v0, v1, v2, v3, v4] : Array Value)[i]?) :
  w.cell? ⟨a, 0, none⟩ = some v0 ∧ w.cell? ⟨a, 1, none⟩ = some v1 ∧ w.cell? ⟨a, 2, none⟩ = some v2 ∧ w.cell? ⟨a, 3, none⟩ = some v3 ∧ w.cell? ⟨a, 4, none⟩ = some v4 :=
 ⟨h 0, h 1, h 2, h 3, h 4⟩
theorem row7 {w : World} {a : Nat} {v0 v1 v2 v3 v4 v5 v6 : Value} (h : ∀ i, w.cell? ⟨a, i, none⟩ = (#[v0, v1, v2, v3, v4, v5, v6] : Array Value)[i]?) :
  w.cell? ⟨a, 0, none⟩ = some v0 ∧ w.cell? ⟨a, 1, none⟩ = some v1 ∧ w.cell? ⟨a, 2, none⟩ = some v2 ∧ w.cell? ⟨a, 3, none⟩ = some v3 ∧ w.cell? ⟨a, 4, none⟩ = some v4 ∧ w.cell? ⟨a, 5, none⟩ = some v5 ∧ w.cell? ⟨a, 6, none⟩ = some v6 :=
 ⟨h 0, h 1, h 2, h 3, h 4, h 5, h 6⟩
theorem row9 {w : World} {a : Nat} {v0 v1 v2 v3 v4 v5 v6 v7 v8 : Value} (h : ∀ i, w.cell? ⟨a, i, none⟩ = (#[v0, v1, v2, v3, v4, v5, v6, v7, v8] : Array Value)[i]?) :
  w.cell? ⟨a, 0, none⟩ = some v0 ∧ w.cell? ⟨a, 1, none⟩ = some v1 ∧ w.cell? ⟨a, 2, none⟩ = some v2 ∧ w.cell? ⟨a, 3, none⟩ = some v3 ∧ w.cell? ⟨a, 4, none⟩ = some v4 ∧ w.cell? ⟨a, 5, none⟩ = some v5 ∧ w.cell? ⟨a, 6, none⟩ = some v6 ∧ w.cell? ⟨a, 7, none⟩ = some v7 ∧ w.cell? ⟨a, 8, none⟩ = some v8 :=
 ⟨h 0, h 1, h 2, h 3, h 4, h 5, h 6, h 7, h 8⟩
theorem srow9 {w : World} {b m : Nat} {v0 v1 v2 v3 v4 v5 v6 v7 v8 : Value} (h : ∀ j u, ([v0, v1, v2, v3, v4, v5, v6, v7, v8] : List Value)[j]? = some u → w.cell? ⟨b, m + j, none⟩ = some u) :
  w.cell? ⟨b, m, none⟩ = some v0 ∧ w.cell? ⟨b, m + 1, none⟩ = some v1 ∧ w.cell? ⟨b, m + 2, none⟩ = some v2 ∧ w.cell? ⟨b, m + 3, none⟩ = some v3 ∧ w.cell? ⟨b, m + 4, none⟩ = some v4 ∧ w.cell? ⟨b, m + 5, none⟩ = some v5 ∧ w.cell? ⟨b, m + 6, none⟩ = some v6 ∧ w.cell? ⟨b, m + 7, none⟩ = some v7 ∧ w.cell? ⟨b, m + 8, none⟩ = some v8 :=
 ⟨h 0 _ rfl, h 1 _ rfl, h 2 _ rfl, h 3 _ rfl, h 4 _ rfl, h 5 _ rfl, h 6 _ rfl, h 7 _ rfl, h 8 _ rfl⟩
end Go.Proofs.YtmfpbahifhndjaaGreat

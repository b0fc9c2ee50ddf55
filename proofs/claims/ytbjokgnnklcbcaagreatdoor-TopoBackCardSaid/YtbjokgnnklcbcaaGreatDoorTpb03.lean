import Derived.Test.YtbjokgnnklcbcaaGreatDoorRows
import Derived.WalkKit
import Derived.WalkSpells
import Derived.WalkLawsBesides
import Derived.Deep.QuietTactic
import Derived.BigQuiet
import Derived.Maps.AppendAt
import Derived.Deep.AppendLies
import Derived.RegionTactic
import Derived.OwnWalk
import Derived.Lib.QuietBelow
import Derived.Test.YtbjokgnnklcbcaaGreatDoorTpb01
set_option linter.all false
namespace Go.Proofs.YtbjokgnnklcbcaaGreatDoor
open Go.RowKit
theorem hide {p : Prop} (h : p) : Hid p := h
abbrev CR (α : Type) := World → Nat → List Value → α → Prop
structure Sta {α : Type} (R : CR α) : Prop where
 keep : ∀ {w w' : World} {B : Nat} {cs : List Value} {x : α}, R w B cs x → (∀ p : Addr, p.block < B → w'.cell? p = w.cell? p) → R w' B cs x
 more : ∀ {w : World} {B B' : Nat} {cs : List Value} {x : α}, R w B cs x → B ≤ B' → R w B' cs x
def rInt : CR Int := fun _ _ cs x => cs = [.int .i64 x]
def rStr : CR ByteArray := fun _ _ cs s => cs = [.string s] ∧ s.size ≤ maxLen
def rEnd : CR (Int × Int) := fun _ _ cs x => cs = [.int .i64 x.1, .int .i64 x.2]
def rLink : CR ((Int × Int) × (Int × Int)) := fun _ _ cs x => cs = [.int .i64 x.1.1, .int .i64 x.1.2, .int .i64 x.2.1, .int .i64 x.2.2]
theorem sta_int : Sta rInt := ⟨fun h _ => h, fun h _ => h⟩
theorem sta_str : Sta rStr := ⟨fun h _ => h, fun h _ => h⟩
theorem sta_link : Sta rLink := ⟨fun h _ => h, fun h _ => h⟩
section
variable {α : Type} {R : CR α} {k : Nat} {w w' : World} {B B' : Nat} {A : Option Addr} {xs : List α}
def Sl (k : Nat) (R : CR α) (w : World) (B : Nat) (A : Option Addr) (xs : List α) : Prop :=
 xs.length ≤ maxLen ∧ ∀ i x, xs[i]? = some x → ∃ b o ecs, A = some ⟨b, o, none⟩ ∧ b < B ∧ ecs.length = k ∧ (∀ j u, ecs[j]? = some u → w.cell? ⟨b, o + i * k + j, none⟩ = some u) ∧ R w B ecs x
def rSl (k : Nat) (R : CR α) : CR (List α) := fun w B cs xs => ∃ A cap, cs = [.slice A xs.length cap] ∧ Sl k R w B A xs
theorem Sl.keep (hs : Sta R) (h : Sl k R w B A xs) (hk : ∀ p : Addr, p.block < B → w'.cell? p = w.cell? p) : Sl k R w' B A xs :=
 ⟨h.1, fun i x hx => by
  obtain ⟨b, o, ecs, hA, hb, hl, hc, hr⟩ := h.2 i x hx
  exact ⟨b, o, ecs, hA, hb, hl, fun j u hu => (hk _ hb).trans (hc j u hu), hs.keep hr hk⟩⟩
theorem Sl.more (hs : Sta R) (h : Sl k R w B A xs) (hB : B ≤ B') : Sl k R w B' A xs :=
 ⟨h.1, fun i x hx => by
  obtain ⟨b, o, ecs, hA, hb, hl, hc, hr⟩ := h.2 i x hx
  exact ⟨b, o, ecs, hA, by omega, hl, hc, hs.more hr hB⟩⟩
theorem sta_sl (hs : Sta R) : Sta (rSl k R) :=
 ⟨fun ⟨A, cap, hc, h⟩ hk => ⟨A, cap, hc, h.keep hs hk⟩, fun ⟨A, cap, hc, h⟩ hB => ⟨A, cap, hc, h.more hs hB⟩⟩
theorem Sl.below (hs : Sta R) (h : Sl k R w B A xs) (hb : Below B w w') : Sl k R w' B A xs := h.keep hs fun _ hp => hb.cell hp
theorem Sl.alloc (hs : Sta R) (h : Sl k R w B A xs) (hB : B ≤ w.heap.size) (o : Obj) : Sl k R (w.alloc o) B A xs := h.keep hs fun p hp => World.cell?_alloc_lt w o p (by omega)
theorem Sl.nil_ : Sl k R w B A ([] : List α) := ⟨by simp, fun i x hx => by simp at hx⟩
theorem Sl.len (h : Sl k R w B A xs) : xs.length ≤ 9223372036854775807 := h.1
theorem Sl.at1 (h : Sl 1 R w B A xs) {i : Nat} (hi : i < xs.length) : ∃ b o u, A = some ⟨b, o, none⟩ ∧ b < B ∧ w.cell? ⟨b, o + i, none⟩ = some u ∧ R w B [u] xs[i] := by
 obtain ⟨b, o, ecs, hA, hb, hl, hc, hr⟩ := h.2 i xs[i] (List.getElem?_eq_getElem hi)
 match ecs, hl with
 | [u], _ =>
  have := hc 0 u rfl
  exact ⟨b, o, u, hA, hb, by simpa using this, hr⟩
theorem Sl.int {xs : List Int} (h : Sl 1 rInt w B A xs) {i : Nat} (hi : i < xs.length) : ∃ b o, A = some ⟨b, o, none⟩ ∧ b < B ∧ w.cell? ⟨b, o + i, none⟩ = some (.int .i64 xs[i]) := by
 obtain ⟨b, o, u, hA, hb, hc, hr⟩ := h.at1 hi
 cases hr
 exact ⟨b, o, hA, hb, hc⟩
theorem Sl.str {xs : List ByteArray} (h : Sl 1 rStr w B A xs) {i : Nat} (hi : i < xs.length) : ∃ b o, A = some ⟨b, o, none⟩ ∧ b < B ∧ w.cell? ⟨b, o + i, none⟩ = some (.string xs[i]) ∧ xs[i].size ≤ maxLen := by
 obtain ⟨b, o, u, hA, hb, hc, hr, hz⟩ := h.at1 hi
 cases hr
 exact ⟨b, o, hA, hb, hc, hz⟩
theorem Sl.ints {xs : List (List Int)} (h : Sl 1 (rSl 1 rInt) w B A xs) {i : Nat} (hi : i < xs.length) : ∃ b o A' cap', A = some ⟨b, o, none⟩ ∧ b < B ∧ w.cell? ⟨b, o + i, none⟩ = some (.slice A' xs[i].length cap') ∧ Sl 1 rInt w B A' xs[i] := by
 obtain ⟨b, o, u, hA, hb, hc, A', cap', hr, hs⟩ := h.at1 hi
 cases hr
 exact ⟨b, o, A', cap', hA, hb, hc, hs⟩
theorem Sl.link {xs : List ((Int × Int) × (Int × Int))} (h : Sl 4 rLink w B A xs) {i : Nat} (hi : i < xs.length) : ∃ b o, A = some ⟨b, o, none⟩ ∧ b < B ∧
  w.cell? ⟨b, o + i * 4, none⟩ = some (.int .i64 xs[i].1.1) ∧ w.cell? ⟨b, o + i * 4 + 1, none⟩ = some (.int .i64 xs[i].1.2) ∧
  w.cell? ⟨b, o + i * 4 + 2, none⟩ = some (.int .i64 xs[i].2.1) ∧ w.cell? ⟨b, o + i * 4 + 3, none⟩ = some (.int .i64 xs[i].2.2) := by
 obtain ⟨b, o, ecs, hA, hb, hl, hc, hr⟩ := h.2 i xs[i] (List.getElem?_eq_getElem hi)
 cases hr
 exact ⟨b, o, hA, hb, hc 0 _ rfl, hc 1 _ rfl, hc 2 _ rfl, hc 3 _ rfl⟩
end
theorem any_take_succ {α : Type} {p : α → Bool} {xs : List α} {k : Nat} (hlt : k < xs.length) (hc : (xs.take k).any p = false) (he : p xs[k] = false) : (xs.take (k + 1)).any p = false := by
 rw [List.take_succ_eq_append_getElem hlt, List.any_append, hc]; simp [he]
theorem any_of_getElem {α : Type} {p : α → Bool} {xs : List α} {k : Nat} (hlt : k < xs.length) (he : p xs[k] = true) : xs.any p = true :=
 List.any_eq_true.2 ⟨xs[k], List.getElem_mem _, he⟩
theorem any_of_take {α : Type} {p : α → Bool} {xs : List α} {k : Nat} (hk : k ≤ xs.length) (hn : ¬ k < xs.length) (hc : (xs.take k).any p = false) : xs.any p = false := by
 rwa [List.take_of_length_le (by omega)] at hc
theorem ret_bool {a b : Bool} (h : a = true ↔ b = true) : Ending.returned (.bool a) = .returned (.bool b) := by rw [Bool.eq_iff_iff.2 h]
theorem ret_b {a b : Bool} (h : a = b) : Ending.returned (.bool a) = .returned (.bool b) := by rw [h]
theorem ret_int {k : IntKind} {a b : Int} (h : a = b) : Ending.returned (.int k a) = .returned (.int k b) := by rw [h]
theorem below_drewN {B : Nat} {a w : World} (h : Below B a w) (n : Nat) : Below B a (w.drewN n) := ⟨h.os, h.tape, h.output, h.size, h.block⟩
theorem quiet_same {P : Program} {f : FuncId} {args : Array Value} {w : World} {n : Nat} {v : Value}
  (h : Calls P f args (w.drewN n) fun e w' => e = .returned v ∧ w.drewN n = w') : Calls P f args (w.drewN n) fun e w'' => e = .returned v ∧ ∃ m, w'' = w.drewN m :=
 h.mono fun _ _ ⟨he, hm⟩ => ⟨he, n, hm.symm⟩
theorem Sl.drewN {α : Type} {R : CR α} {k : Nat} {w : World} {B : Nat} {A : Option Addr} {xs : List α} (hs : Sta R) (h : Sl k R w B A xs) (n : Nat) : Sl k R (w.drewN n) B A xs := h.keep hs fun _ _ => rfl
theorem str_beq (a b : ByteArray) : (a.toList == b.toList) = decide (a = b) := by
 rw [ByteArray.toList_eq, ByteArray.toList_eq, Bool.eq_iff_iff]
 simp only [beq_iff_eq, decide_eq_true_eq]
 exact ⟨fun h => Go.WideShapes.bytes_inj h, fun h => by rw [h]⟩
theorem str_eq {a b : ByteArray} (h : a = b) : (a.toList == b.toList) = true := by rw [str_beq]; simpa using h
theorem str_ne {a b : ByteArray} (h : ¬ a = b) : (a.toList == b.toList) = false := by rw [str_beq]; simpa using h
theorem notMem_take_snoc {α : Type} {xs : List α} {n : α} {k : Nat} (hlt : k < xs.length) (hc : n ∉ xs.take k) (he : ¬ xs[k] = n) : n ∉ xs.take (k + 1) := by
 rw [List.take_succ_eq_append_getElem hlt]
 intro h
 rcases List.mem_append.1 h with h | h
 ·exact hc h
 ·rw [List.mem_singleton] at h
  exact he h.symm
theorem notMem_of_take {α : Type} {xs : List α} {n : α} {k : Nat} (hk : k ≤ xs.length) (hn : ¬ k < xs.length) (hc : n ∉ xs.take k) : n ∉ xs := by
 rwa [List.take_of_length_le (by omega)] at hc
def idx {α : Type} [DecidableEq α] : List α → α → Nat
 | [], _ => 0
 | x :: l, a => if x = a then 0 else idx l a + 1
def findI {α : Type} [DecidableEq α] (l : List α) (a : α) : Int := if a ∈ l then (idx l a : Nat) else -1
theorem idx_at {α : Type} [DecidableEq α] (a : α) : ∀ (l : List α) (k : Nat) (hk : k < l.length), a ∉ l.take k → l[k] = a → idx l a = k
 | [], k, hk, _, _ => absurd hk (by simp)
 | x :: l, 0, _, _, he => by simp at he; simp [idx, he]
 | x :: l, k + 1, hk, hn, he => by
  simp only [List.take_succ_cons, List.mem_cons, not_or] at hn
  have h1 : ¬ x = a := fun e => hn.1 e.symm
  simp only [idx, if_neg h1]
  rw [idx_at a l k (by simpa using hk) hn.2 (by simpa using he)]
theorem findI_at {α : Type} [DecidableEq α] {a : α} {l : List α} {k : Nat} (hk : k < l.length) (hn : a ∉ l.take k) (he : l[k] = a) : findI l a = (k : Int) := by
 unfold findI
 rw [if_pos (by rw [← he]; exact List.getElem_mem _), idx_at a l k hk hn he]
theorem findI_no {α : Type} [DecidableEq α] {a : α} {l : List α} (h : a ∉ l) : findI l a = -1 := by unfold findI; rw [if_neg h]
theorem idx_le {α : Type} [DecidableEq α] (l : List α) (k : Nat) (hk : k < l.length) : idx l l[k] ≤ k := by
 induction l generalizing k with
 | nil => simp at hk
 | cons x l ih =>
  simp only [idx]
  cases k with
  | zero => simp
  | succ k =>
   simp only [List.getElem_cons_succ]
   split
   ·omega
   ·have := ih k (by simpa using hk); omega
theorem findI_self {α : Type} [DecidableEq α] {l : List α} {k : Nat} (hk : k < l.length) : findI l l[k] = (k : Int) ↔ l[k] ∉ l.take k := by
 constructor
 ·intro h hm
  obtain ⟨i, hi, he⟩ := List.getElem_of_mem hm
  rw [List.length_take] at hi
  rw [List.getElem_take] at he
  have h2 := idx_le l i (by omega)
  rw [he] at h2
  unfold findI at h
  rw [if_pos (List.getElem_mem _)] at h
  omega
 ·intro h; exact findI_at hk h rfl
theorem findI_le {α : Type} [DecidableEq α] {l : List α} {k : Nat} (hk : k < l.length) : findI l l[k] ≤ (k : Int) ∧ 0 ≤ findI l l[k] := by
 unfold findI
 rw [if_pos (List.getElem_mem _)]
 have := idx_le l k hk
 omega
theorem bcell {W w1 : World} (hb : Below W.heap.size W w1) : (∀ b o, b < W.heap.size → w1.cell? ⟨b, o, none⟩ = W.cell? ⟨b, o, none⟩) ∧ (∀ b o, b < W.heap.size → w1.frozen? ⟨b, o, none⟩ = W.frozen? ⟨b, o, none⟩) ∧ W.heap.size ≤ w1.heap.size :=
 ⟨fun b o h => hb.cell (p := ⟨b, o, none⟩) h, fun b o h => hb.frozen (p := ⟨b, o, none⟩) h, hb.size⟩
theorem end_ne {a : Int × Int} {s p : Int} (h : ¬ a = (s, p)) : (¬ a.1 = s) ∨ (a.1 = s ∧ ¬ a.2 = p) := by
 by_cases e : a.1 = s
 ·exact .inr ⟨e, fun g => h (Prod.ext e g)⟩
 ·exact .inl e
theorem below_of_regrown {W w1 : World} (h : ∃ p : Regrown, w1 = Go.Sort.grow (redrawn W p.d) p.os) : Below W.heap.size W w1 := by
 obtain ⟨p, rfl⟩ := h; exact below_regrown _ _ _
theorem gcell (W : World) : ∀ d os b o, b < W.heap.size → (Go.Sort.grow (redrawn W d) os).cell? ⟨b, o, none⟩ = W.cell? ⟨b, o, none⟩ :=
 fun d os _ _ h => (below_regrown W d os).cell h
theorem gsize (W : World) (d : Nat) (os : Array Obj) : W.heap.size ≤ (Go.Sort.grow (redrawn W d) os).heap.size := (below_regrown W d os).size
theorem box1 (w : World) (cs : Array Value) (t : TypeId) : ∃ wb, w.alloc (.cells cs t) = wb ∧ wb.heap.size = w.heap.size + 1 ∧ Below w.heap.size w wb ∧ (∀ i, wb.cell? ⟨w.heap.size, i, none⟩ = cs[i]?) ∧ (∀ i, wb.frozen? ⟨w.heap.size, i, none⟩ = false) :=
 ⟨_, rfl, by simp, (Below.refl _ _).alloc (Nat.le_refl _) _, fun _ => World.cell?_alloc_at _ _ _ _ rfl, fun _ => World.frozen?_alloc_at _ _ _ _ rfl⟩
theorem gcell' {B : Nat} {wb wr : World} (h : Below B wb wr) (hz : B ≤ wr.heap.size) : ∀ d os b o, b < B → (Go.Sort.grow (redrawn wr d) os).cell? ⟨b, o, none⟩ = wb.cell? ⟨b, o, none⟩ :=
 fun d os b o hb => ((below_regrown wr d os).cell (p := ⟨b, o, none⟩) (Nat.lt_of_lt_of_le hb hz)).trans (h.cell hb)
theorem bcell' {B : Nat} {wb wr : World} (h : Below B wb wr) : (∀ b o, b < B → wr.cell? ⟨b, o, none⟩ = wb.cell? ⟨b, o, none⟩) ∧ (∀ b o, b < B → wr.frozen? ⟨b, o, none⟩ = wb.frozen? ⟨b, o, none⟩) :=
 ⟨fun b o hb => h.cell (p := ⟨b, o, none⟩) hb, fun b o hb => h.frozen (p := ⟨b, o, none⟩) hb⟩
theorem flatMap_get {α : Type} {f : α → List Value} {k : Nat} (hf : ∀ x, (f x).length = k) : ∀ (xs : List α) (i j : Nat) (x : α) (u : Value), xs[i]? = some x → (f x)[j]? = some u → (xs.flatMap f)[i * k + j]? = some u
 | [], i, j, x, u, h, _ => by simp at h
 | y :: xs, 0, j, x, u, h, hu => by
  simp at h; subst h
  have : j < (f y).length := (List.getElem?_eq_some_iff.1 hu).1
  simp [List.flatMap_cons, List.getElem?_append_left this, hu]
 | y :: xs, i + 1, j, x, u, h, hu => by
  have ih := flatMap_get hf xs i j x u (by simpa using h) hu
  have hy := hf y
  rw [List.flatMap_cons, List.getElem?_append_right (by rw [hy, Nat.add_mul]; omega), ← ih]
  congr 1
  rw [hy, Nat.add_mul]; omega
theorem own_sl {α : Type} {R : CR α} {k base : Nat} {e : TypeId} {w : World} {v : Value} {xs : List α} {f : α → List Value} (hf : ∀ x, (f x).length = k) (hR : ∀ x ∈ xs, R w w.heap.size (f x) x)
  (h : w.ownsRow base e k v xs.length (xs.flatMap f)) : ∃ A cap, v = .slice A xs.length cap ∧ Sl k R w w.heap.size A xs := by
 rcases h.2 with ⟨rfl, hz⟩ | ⟨g, cap, cur, rfl, hb, hg, hl, hm, -⟩
 ·have hz' : xs = [] := List.eq_nil_of_length_eq_zero hz
  subst hz'
  exact ⟨none, 0, rfl, Sl.nil_⟩
 ·refine ⟨some ⟨g, 0, none⟩, cap, rfl, by omega, fun i x hx => ⟨g, 0, f x, rfl, (h.lt g rfl).2, hf x, fun j u hu => ?_, hR x (List.mem_of_getElem? hx)⟩⟩
  have := h.cells (g := g) rfl (i * k + j) u (flatMap_get hf xs i j x u hx hu)
  have e : (⟨g, 0, none⟩ : Addr).add (i * k + j) = ⟨g, 0 + i * k + j, none⟩ := by unfold Addr.add; split <;> simp_all <;> omega
  rw [← e]; exact this
theorem wp_gen {P : Program} {c : Code} {Q : Exit → Act → World → Prop} {a : Act} {w : World} (X : World → Prop) (hx : X w) (h : ∀ w', X w' → c.wp P Q a w') : c.wp P Q a w := h w hx
end Go.Proofs.YtbjokgnnklcbcaaGreatDoor
namespace Go.Proofs.YtbjokgnnklcbcaaGreatDoor
structure Net where
 sw : List ByteArray
 ports : List (List Int)
 links : List ((Int × Int) × (Int × Int))
def greatB (n : Net) : Bool := n.sw.any (fun s => decide (40 < s.size)) || n.ports.any (fun l => decide (30 < l.length)) || (decide (12 < n.sw.length) || decide (12 < n.ports.length) || decide (60 < n.links.length))
def thereB (n : Net) (e : Int × Int) : Bool := decide (0 ≤ e.1 ∧ e.1 < n.ports.length ∧ e.2 ∈ n.ports.getD e.1.toNat [])
def nextL : List ((Int × Int) × (Int × Int)) → (Int × Int) → Option (Int × Int)
 | [], _ => none
 | l :: r, e => if l.1 = e then some l.2 else if l.2 = e then some l.1 else nextL r e
def offL (l : List ((Int × Int) × (Int × Int))) (e : Int × Int) : Prop := ∀ x ∈ l, ¬ x.1 = e ∧ ¬ x.2 = e
theorem nextL_none {l : List ((Int × Int) × (Int × Int))} {e : Int × Int} (h : offL l e) : nextL l e = none := by
 induction l with
 | nil => rfl
 | cons x l ih =>
  have h1 := h x List.mem_cons_self
  rw [nextL, if_neg h1.1, if_neg h1.2]; exact ih fun y hy => h y (List.mem_cons_of_mem _ hy)
theorem nextL_app {l r : List ((Int × Int) × (Int × Int))} {e : Int × Int} (h : offL l e) : nextL (l ++ r) e = nextL r e := by
 induction l with
 | nil => rfl
 | cons x l ih =>
  have h1 := h x List.mem_cons_self
  rw [List.cons_append, nextL, if_neg h1.1, if_neg h1.2]; exact ih fun y hy => h y (List.mem_cons_of_mem _ hy)
theorem nextL_at {l : List ((Int × Int) × (Int × Int))} {e : Int × Int} {k : Nat} (hk : k < l.length) (h : offL (l.take k) e) :
  nextL l e = if l[k].1 = e then some l[k].2 else if l[k].2 = e then some l[k].1 else nextL (l.drop (k + 1)) e := by
 have : l = l.take k ++ l[k] :: l.drop (k + 1) := by rw [List.getElem_cons_drop, List.take_append_drop]
 conv => lhs; rw [this]
 rw [nextL_app h]; rfl
theorem offL_succ {l : List ((Int × Int) × (Int × Int))} {e : Int × Int} {k : Nat} (hk : k < l.length) (h : offL (l.take k) e) (h1 : ¬ l[k].1 = e) (h2 : ¬ l[k].2 = e) : offL (l.take (k + 1)) e := by
 rw [List.take_succ_eq_append_getElem hk]
 intro x hx
 rcases List.mem_append.1 hx with hx | hx
 ·exact h x hx
 ·rw [List.mem_singleton] at hx; subst hx; exact ⟨h1, h2⟩
def nextT : Option (Int × Int) → (Int × Int) × Bool × Bool
 | some x => (x, true, true)
 | none => ((0, 0), true, false)
def nextB (n : Net) (e : Int × Int) : (Int × Int) × Bool × Bool :=
 if thereB n e = true then nextT (nextL n.links e) else ((0, 0), false, false)
@[reducible] def endV (e : Int × Int) : Value := .agg #[.int .i64 e.1, .int .i64 e.2]
def portAt (l : List Int) (i : Nat) : Prop := 1 ≤ l.getD i 0 ∧ l.getD i 0 ≤ 511 ∧ (0 < i → l.getD (i - 1) 0 < l.getD i 0)
def portsTo (l : List Int) (k : Nat) : Prop := ∀ i, i < k → portAt l i
instance (l : List Int) (i : Nat) : Decidable (portAt l i) := by unfold portAt; infer_instance
instance (l : List Int) (k : Nat) : Decidable (portsTo l k) := by unfold portsTo; infer_instance
def mayPortsB (l : List Int) : Bool := decide (portsTo l l.length) && decide (l.length ≤ 8)
theorem portsTo_succ {l : List Int} {k : Nat} (h : portsTo l k) (h1 : portAt l k) : portsTo l (k + 1) := fun i hi => by
 by_cases e : i = k
 ·subst e; exact h1
 ·exact h i (by omega)
theorem mayPorts_no {l : List Int} {k : Nat} (hk : k < l.length) (h : ¬ portAt l k) : mayPortsB l = false := by
 simp only [mayPortsB, Bool.and_eq_false_iff, decide_eq_false_iff_not]
 exact .inl fun g => h (g k hk)
def endsOf (l : List ((Int × Int) × (Int × Int))) : List (Int × Int) := l.flatMap fun x => [x.1, x.2]
theorem endsOf_len (l : List ((Int × Int) × (Int × Int))) : (endsOf l).length = 2 * l.length := by
 induction l with
 | nil => rfl
 | cons x l ih => simp [endsOf] at ih ⊢; omega
def swOk (n : Net) (i : Nat) : Prop := nameB (n.sw.getD i ByteArray.empty) = true ∧ n.sw.getD i ByteArray.empty ∉ n.sw.take i ∧ mayPortsB (n.ports.getD i []) = true
def endOk (n : Net) (es : List (Int × Int)) (i : Nat) : Prop := thereB n (es.getD i (0, 0)) = true ∧ es.getD i (0, 0) ∉ es.take i
instance (n : Net) (i : Nat) : Decidable (swOk n i) := by unfold swOk; infer_instance
instance (n : Net) (es : List (Int × Int)) (i : Nat) : Decidable (endOk n es i) := by unfold endOk; infer_instance
def mayB (n : Net) : Bool := decide (n.sw.length ≤ 8 ∧ n.ports.length = n.sw.length) && decide (∀ i, i < n.sw.length → swOk n i) && decide (∀ i, i < (endsOf n.links).length → endOk n (endsOf n.links) i)
theorem mayB_size {n : Net} (h : ¬ (n.sw.length ≤ 8 ∧ n.ports.length = n.sw.length)) : mayB n = false := by simp only [mayB, h, decide_false, Bool.false_and]
theorem mayB_sw {n : Net} {k : Nat} (hk : k < n.sw.length) (h : ¬ swOk n k) : mayB n = false := by
 have : decide (∀ i, i < n.sw.length → swOk n i) = false := by rw [decide_eq_false_iff_not]; exact fun g => h (g k hk)
 simp only [mayB, this, Bool.and_false, Bool.false_and]
theorem mayB_end {n : Net} {k : Nat} (hk : k < (endsOf n.links).length) (h : ¬ endOk n (endsOf n.links) k) : mayB n = false := by
 have : decide (∀ i, i < (endsOf n.links).length → endOk n (endsOf n.links) i) = false := by rw [decide_eq_false_iff_not]; exact fun g => h (g k hk)
 simp only [mayB, this, Bool.and_false]
theorem mayB_yes {n : Net} (h : n.sw.length ≤ 8 ∧ n.ports.length = n.sw.length) (h1 : ∀ i, i < n.sw.length → swOk n i) (h2 : ∀ i, i < (endsOf n.links).length → endOk n (endsOf n.links) i) : mayB n = true := by
 simp only [mayB, h, h1, h2, Bool.and_eq_true, decide_eq_true_eq]; exact ⟨⟨⟨trivial, trivial⟩, fun i hi => h1 i hi⟩, fun i hi => h2 i hi⟩
theorem upto_succ {p : Nat → Prop} {k : Nat} (h : ∀ i, i < k → p i) (h1 : p k) : ∀ i, i < k + 1 → p i := fun i hi => by
 by_cases e : i = k
 ·subst e; exact h1
 ·exact h i (by omega)
end Go.Proofs.YtbjokgnnklcbcaaGreatDoor

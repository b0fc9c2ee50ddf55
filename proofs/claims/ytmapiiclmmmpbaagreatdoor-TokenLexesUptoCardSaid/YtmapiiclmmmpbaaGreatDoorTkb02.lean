import Derived.Test.YtmapiiclmmmpbaaGreatDoorRows
import Derived.WalkKit
import Derived.WalkSpells
import Derived.WalkLawsBesides
import Derived.Deep.QuietTactic
import Derived.BigQuiet
import Derived.Maps.AppendAt
import Derived.Deep.AppendLies
import Derived.RegionTactic
import Derived.OwnWalk
import Derived.Lib.QuietBelow
import Derived.Test.YtmapiiclmmmpbaaGreatDoorTkb01
import Derived.Test.YtmapiiclmmmpbaaGreatDoorShelf
set_option linter.all false
namespace Go.Proofs.YtmapiiclmmmpbaaGreatDoor
open Go.RowKit
theorem hide {p : Prop} (h : p) : Hid p := h
abbrev CR (α : Type) := World → Nat → List Value → α → Prop
structure Sta {α : Type} (R : CR α) : Prop where
 keep : ∀ {w w' : World} {B : Nat} {cs : List Value} {x : α}, R w B cs x → (∀ p : Addr, p.block < B → w'.cell? p = w.cell? p) → R w' B cs x
 more : ∀ {w : World} {B B' : Nat} {cs : List Value} {x : α}, R w B cs x → B ≤ B' → R w B' cs x
def rInt : CR Int := fun _ _ cs x => cs = [.int .i64 x]
def rStr : CR ByteArray := fun _ _ cs s => cs = [.string s] ∧ s.size ≤ maxLen
theorem sta_int : Sta rInt := ⟨fun h _ => h, fun h _ => h⟩
theorem sta_str : Sta rStr := ⟨fun h _ => h, fun h _ => h⟩
section
variable {α : Type} {R : CR α} {k : Nat} {w w' : World} {B B' : Nat} {A : Option Addr} {xs : List α}
def Sl (k : Nat) (R : CR α) (w : World) (B : Nat) (A : Option Addr) (xs : List α) : Prop :=
 xs.length ≤ maxLen ∧ ∀ i x, xs[i]? = some x → ∃ b o ecs, A = some ⟨b, o, none⟩ ∧ b < B ∧ ecs.length = k ∧ (∀ j u, ecs[j]? = some u → w.cell? ⟨b, o + i * k + j, none⟩ = some u) ∧ R w B ecs x
def rSl (k : Nat) (R : CR α) : CR (List α) := fun w B cs xs => ∃ A cap, cs = [.slice A xs.length cap] ∧ Sl k R w B A xs
theorem Sl.keep (hs : Sta R) (h : Sl k R w B A xs) (hk : ∀ p : Addr, p.block < B → w'.cell? p = w.cell? p) : Sl k R w' B A xs :=
 ⟨h.1, fun i x hx => by
  obtain ⟨b, o, ecs, hA, hb, hl, hc, hr⟩ := h.2 i x hx
  exact ⟨b, o, ecs, hA, hb, hl, fun j u hu => (hk _ hb).trans (hc j u hu), hs.keep hr hk⟩⟩
theorem Sl.more (hs : Sta R) (h : Sl k R w B A xs) (hB : B ≤ B') : Sl k R w B' A xs :=
 ⟨h.1, fun i x hx => by
  obtain ⟨b, o, ecs, hA, hb, hl, hc, hr⟩ := h.2 i x hx
  exact ⟨b, o, ecs, hA, by omega, hl, hc, hs.more hr hB⟩⟩
theorem sta_sl (hs : Sta R) : Sta (rSl k R) :=
 ⟨fun ⟨A, cap, hc, h⟩ hk => ⟨A, cap, hc, h.keep hs hk⟩, fun ⟨A, cap, hc, h⟩ hB => ⟨A, cap, hc, h.more hs hB⟩⟩
theorem Sl.below (hs : Sta R) (h : Sl k R w B A xs) (hb : Below B w w') : Sl k R w' B A xs := h.keep hs fun _ hp => hb.cell hp
theorem Sl.alloc (hs : Sta R) (h : Sl k R w B A xs) (hB : B ≤ w.heap.size) (o : Obj) : Sl k R (w.alloc o) B A xs := h.keep hs fun p hp => World.cell?_alloc_lt w o p (by omega)
theorem Sl.nil_ : Sl k R w B A ([] : List α) := ⟨by simp, fun i x hx => by simp at hx⟩
theorem Sl.len (h : Sl k R w B A xs) : xs.length ≤ 9223372036854775807 := h.1
theorem Sl.at1 (h : Sl 1 R w B A xs) {i : Nat} (hi : i < xs.length) : ∃ b o u, A = some ⟨b, o, none⟩ ∧ b < B ∧ w.cell? ⟨b, o + i, none⟩ = some u ∧ R w B [u] xs[i] := by
 obtain ⟨b, o, ecs, hA, hb, hl, hc, hr⟩ := h.2 i xs[i] (List.getElem?_eq_getElem hi)
 match ecs, hl with
 | [u], _ =>
  have := hc 0 u rfl
  exact ⟨b, o, u, hA, hb, by simpa using this, hr⟩
theorem Sl.int {xs : List Int} (h : Sl 1 rInt w B A xs) {i : Nat} (hi : i < xs.length) : ∃ b o, A = some ⟨b, o, none⟩ ∧ b < B ∧ w.cell? ⟨b, o + i, none⟩ = some (.int .i64 xs[i]) := by
 obtain ⟨b, o, u, hA, hb, hc, hr⟩ := h.at1 hi
 cases hr
 exact ⟨b, o, hA, hb, hc⟩
theorem Sl.str {xs : List ByteArray} (h : Sl 1 rStr w B A xs) {i : Nat} (hi : i < xs.length) : ∃ b o, A = some ⟨b, o, none⟩ ∧ b < B ∧ w.cell? ⟨b, o + i, none⟩ = some (.string xs[i]) ∧ xs[i].size ≤ maxLen := by
 obtain ⟨b, o, u, hA, hb, hc, hr, hz⟩ := h.at1 hi
 cases hr
 exact ⟨b, o, hA, hb, hc, hz⟩
end
theorem Sl.new1 {α : Type} {R : CR α} {w : World} (xs : List α) (f : α → Value) (t : TypeId) (hl : xs.length ≤ maxLen) (hr : ∀ x ∈ xs, R (w.alloc (.cells (xs.map f).toArray t)) (w.heap.size + 1) [f x] x) :
  Sl 1 R (w.alloc (.cells (xs.map f).toArray t)) (w.heap.size + 1) (some ⟨w.heap.size, 0, none⟩) xs := by
 refine ⟨hl, fun i x hx => ⟨w.heap.size, 0, [f x], rfl, by omega, rfl, fun j u hu => ?_, hr x (List.mem_of_getElem? hx)⟩⟩
 cases j with
 | zero =>
  simp at hu; subst hu
  rw [World.cell?_alloc_at _ _ _ _ rfl]
  simp [hx]
 | succ j => simp at hu
theorem ret_bool {a b : Bool} (h : a = true ↔ b = true) : Ending.returned (.bool a) = .returned (.bool b) := by rw [Bool.eq_iff_iff.2 h]
theorem ret_b {a b : Bool} (h : a = b) : Ending.returned (.bool a) = .returned (.bool b) := by rw [h]
theorem ret_int {k : IntKind} {a b : Int} (h : a = b) : Ending.returned (.int k a) = .returned (.int k b) := by rw [h]
theorem below_drewN {B : Nat} {a w : World} (h : Below B a w) (n : Nat) : Below B a (w.drewN n) := ⟨h.os, h.tape, h.output, h.size, h.block⟩
theorem quiet_same {P : Program} {f : FuncId} {args : Array Value} {w : World} {n : Nat} {v : Value}
  (h : Calls P f args (w.drewN n) fun e w' => e = .returned v ∧ w.drewN n = w') : Calls P f args (w.drewN n) fun e w'' => e = .returned v ∧ ∃ m, w'' = w.drewN m :=
 h.mono fun _ _ ⟨he, hm⟩ => ⟨he, n, hm.symm⟩
theorem Sl.drewN {α : Type} {R : CR α} {k : Nat} {w : World} {B : Nat} {A : Option Addr} {xs : List α} (hs : Sta R) (h : Sl k R w B A xs) (n : Nat) : Sl k R (w.drewN n) B A xs := h.keep hs fun _ _ => rfl
theorem str_beq (a b : ByteArray) : (a.toList == b.toList) = decide (a = b) := by
 rw [ByteArray.toList_eq, ByteArray.toList_eq, Bool.eq_iff_iff]
 simp only [beq_iff_eq, decide_eq_true_eq]
 exact ⟨fun h => Go.WideShapes.bytes_inj h, fun h => by rw [h]⟩
theorem str_eq {a b : ByteArray} (h : a = b) : (a.toList == b.toList) = true := by rw [str_beq]; simpa using h
theorem str_ne {a b : ByteArray} (h : ¬ a = b) : (a.toList == b.toList) = false := by rw [str_beq]; simpa using h
theorem notMem_take_snoc {α : Type} {xs : List α} {n : α} {k : Nat} (hlt : k < xs.length) (hc : n ∉ xs.take k) (he : ¬ xs[k] = n) : n ∉ xs.take (k + 1) := by
 rw [List.take_succ_eq_append_getElem hlt]
 intro h
 rcases List.mem_append.1 h with h | h
 ·exact hc h
 ·rw [List.mem_singleton] at h
  exact he h.symm
theorem notMem_of_take {α : Type} {xs : List α} {n : α} {k : Nat} (hk : k ≤ xs.length) (hn : ¬ k < xs.length) (hc : n ∉ xs.take k) : n ∉ xs := by
 rwa [List.take_of_length_le (by omega)] at hc
theorem bcell {W w1 : World} (hb : Below W.heap.size W w1) : (∀ b o, b < W.heap.size → w1.cell? ⟨b, o, none⟩ = W.cell? ⟨b, o, none⟩) ∧ (∀ b o, b < W.heap.size → w1.frozen? ⟨b, o, none⟩ = W.frozen? ⟨b, o, none⟩) ∧ W.heap.size ≤ w1.heap.size :=
 ⟨fun b o h => hb.cell (p := ⟨b, o, none⟩) h, fun b o h => hb.frozen (p := ⟨b, o, none⟩) h, hb.size⟩
theorem below_of_regrown {W w1 : World} (h : ∃ p : Regrown, w1 = Go.Sort.grow (redrawn W p.d) p.os) : Below W.heap.size W w1 := by
 obtain ⟨p, rfl⟩ := h; exact below_regrown _ _ _
theorem gcell (W : World) : ∀ d os b o, b < W.heap.size → (Go.Sort.grow (redrawn W d) os).cell? ⟨b, o, none⟩ = W.cell? ⟨b, o, none⟩ :=
 fun d os _ _ h => (below_regrown W d os).cell h
theorem gsize (W : World) (d : Nat) (os : Array Obj) : W.heap.size ≤ (Go.Sort.grow (redrawn W d) os).heap.size := (below_regrown W d os).size
theorem box1 (w : World) (cs : Array Value) (t : TypeId) : ∃ wb, w.alloc (.cells cs t) = wb ∧ wb.heap.size = w.heap.size + 1 ∧ Below w.heap.size w wb ∧ (∀ i, wb.cell? ⟨w.heap.size, i, none⟩ = cs[i]?) ∧ (∀ i, wb.frozen? ⟨w.heap.size, i, none⟩ = false) :=
 ⟨_, rfl, by simp, (Below.refl _ _).alloc (Nat.le_refl _) _, fun _ => World.cell?_alloc_at _ _ _ _ rfl, fun _ => World.frozen?_alloc_at _ _ _ _ rfl⟩
theorem gcell' {B : Nat} {wb wr : World} (h : Below B wb wr) (hz : B ≤ wr.heap.size) : ∀ d os b o, b < B → (Go.Sort.grow (redrawn wr d) os).cell? ⟨b, o, none⟩ = wb.cell? ⟨b, o, none⟩ :=
 fun d os b o hb => ((below_regrown wr d os).cell (p := ⟨b, o, none⟩) (Nat.lt_of_lt_of_le hb hz)).trans (h.cell hb)
theorem bcell' {B : Nat} {wb wr : World} (h : Below B wb wr) : (∀ b o, b < B → wr.cell? ⟨b, o, none⟩ = wb.cell? ⟨b, o, none⟩) ∧ (∀ b o, b < B → wr.frozen? ⟨b, o, none⟩ = wb.frozen? ⟨b, o, none⟩) :=
 ⟨fun b o hb => h.cell (p := ⟨b, o, none⟩) hb, fun b o hb => h.frozen (p := ⟨b, o, none⟩) hb⟩
theorem flatMap_get {α : Type} {f : α → List Value} {k : Nat} (hf : ∀ x, (f x).length = k) : ∀ (xs : List α) (i j : Nat) (x : α) (u : Value), xs[i]? = some x → (f x)[j]? = some u → (xs.flatMap f)[i * k + j]? = some u
 | [], i, j, x, u, h, _ => by simp at h
 | y :: xs, 0, j, x, u, h, hu => by
  simp at h; subst h
  have : j < (f y).length := (List.getElem?_eq_some_iff.1 hu).1
  simp [List.flatMap_cons, List.getElem?_append_left this, hu]
 | y :: xs, i + 1, j, x, u, h, hu => by
  have ih := flatMap_get hf xs i j x u (by simpa using h) hu
  have hy := hf y
  rw [List.flatMap_cons, List.getElem?_append_right (by rw [hy, Nat.add_mul]; omega), ← ih]
  congr 1
  rw [hy, Nat.add_mul]; omega
theorem own_sl {α : Type} {R : CR α} {k base : Nat} {e : TypeId} {w : World} {v : Value} {xs : List α} {f : α → List Value} (hf : ∀ x, (f x).length = k) (hR : ∀ x ∈ xs, R w w.heap.size (f x) x)
  (h : w.ownsRow base e k v xs.length (xs.flatMap f)) : ∃ A cap, v = .slice A xs.length cap ∧ Sl k R w w.heap.size A xs := by
 rcases h.2 with ⟨rfl, hz⟩ | ⟨g, cap, cur, rfl, hb, hg, hl, hm, -⟩
 ·have hz' : xs = [] := List.eq_nil_of_length_eq_zero hz
  subst hz'
  exact ⟨none, 0, rfl, Sl.nil_⟩
 ·refine ⟨some ⟨g, 0, none⟩, cap, rfl, by omega, fun i x hx => ⟨g, 0, f x, rfl, (h.lt g rfl).2, hf x, fun j u hu => ?_, hR x (List.mem_of_getElem? hx)⟩⟩
  have := h.cells (g := g) rfl (i * k + j) u (flatMap_get hf xs i j x u hx hu)
  have e : (⟨g, 0, none⟩ : Addr).add (i * k + j) = ⟨g, 0 + i * k + j, none⟩ := by unfold Addr.add; split <;> simp_all <;> omega
  rw [← e]; exact this
theorem bl_self {w : World} : Below w.heap.size w w := Below.refl _ _
end Go.Proofs.YtmapiiclmmmpbaaGreatDoor
/-! Layer 3: names and keywords (the part of DnB, DnC, DnE that speaks of them). -/
namespace Go.Proofs.YtmapiiclmmmpbaaGreatDoor
open Go.RowKit
set_option maxHeartbeats 400000 in
theorem digit03_any (c : Int) (w : World) : Calls Tryz.prog 25 #[.int .u8 c] w fun e w' => e = .returned (.bool (digitB c)) ∧ w = w' := by
 go_enter Tryz.func25, Tryz.ntmps25
 go_wp2
 all_goals
  go_ret
  exact ⟨ret_bool (by simp [digitB]; omega), rfl⟩
set_option maxHeartbeats 400000 in
theorem isDigit_any (c : Int) (w : World) : Calls Tryz.prog 24 #[.int .u8 c] w fun e w' => e = .returned (.bool (digitB c)) ∧ w = w' := by
 go_enter Tryz.func24, Tryz.ntmps24
 go_wp2
 all_goals
  go_ret
  exact ⟨ret_bool (by simp [digitB]; omega), rfl⟩
set_option maxHeartbeats 400000 in
theorem letter03_any (c : Int) (w : World) : Calls Tryz.prog 26 #[.int .u8 c] w fun e w' => e = .returned (.bool (letterB c)) ∧ w = w' := by
 go_enter Tryz.func26, Tryz.ntmps26
 go_wp2
 all_goals
  go_ret
  exact ⟨ret_bool (by simp [letterB]; omega), rfl⟩
set_option maxHeartbeats 400000 in
theorem isWord_any (c : Int) (w : World) : Calls Tryz.prog 39 #[.int .u8 c] w fun e w' => e = .returned (.bool (wordB c)) ∧ w = w' := by
 go_enter Tryz.func39, Tryz.ntmps39
 go_wp2_with (go_at_call 24; refine (isDigit_any _ _).mono ?_; rintro e w' ⟨rfl, rfl⟩)
 all_goals
  go_ret
  refine ⟨ret_bool ?_, rfl⟩
  simp only [digitB, decide_eq_true_eq, decide_eq_false_iff_not] at *
  simp [wordB, digitB, letterB]; try omega
set_option maxHeartbeats 400000 in
theorem word_any (s : ByteArray) (w : World) (hs : s.size ≤ maxLen) :
  Calls Tryz.prog 23 #[.string s] w fun e w' => e = .returned (.string (s.extract 0 (wlen s))) ∧ w = w' := by
 have hl : s.size ≤ 9223372036854775807 := hs
 go_enter Tryz.func23, Tryz.ntmps23
 go_wp2
 go_loop [3] (fun i => ∃ k : Nat, k ≤ s.size ∧ i = .int .i64 k ∧ k ≤ wlen s) (fun i => s.size - (intOf i).toNat)
 case atStart => exact ⟨0, Nat.zero_le _, rfl, Nat.zero_le _⟩
 case round =>
  obtain ⟨k, hk, rfl, hc⟩ := hrel
  by_cases hlt : k < s.size
  ·go_wp2_with (go_at_call 39; refine (isWord_any _ _).mono ?_; rintro e w' ⟨rfl, rfl⟩)
   ·go_round
    case rel => exact ⟨k + 1, by omega, by go_num, wlen_succ hlt hc (by assumption)⟩
    case measure => simp [intOf]; omega
   ·go_ret
    rw [wlen_stop hlt hc (by assumption)]
    exact ⟨rfl, rfl⟩
  ·go_wp2_with (go_at_call 39; refine (isWord_any _ _).mono ?_; rintro e w' ⟨rfl, rfl⟩)
   go_ret
   rw [wlen_end hk hlt hc]
   exact ⟨rfl, rfl⟩
set_option maxHeartbeats 400000 in
theorem isKeyword_any (s : ByteArray) (m : Int) (w : World) (hs : s.size < 4294967281) (hm : w.cell? ⟨0, 0, none⟩ = some (.int .i64 m)) :
  Calls Tryz.prog 9 #[.string s] w fun e w' => e = .returned (.bool (kwB s)) ∧ w = w' := by
 go_enter Tryz.func9, Tryz.ntmps9
 by_cases h0 : s.toList = []
 ·have h0' : s.toList.isEmpty = true := by simp [h0]
  go_wp2
  go_ret
  exact ⟨ret_b (kwB_empty h0).symm, rfl⟩
 ·have h0' : s.toList.isEmpty = false := by simp [h0]
  go_wp2_with fail
  refine (Tryz.strings_Contains _ _ m _ hs hm).mono ?_
  rintro e w' ⟨rfl, rfl⟩
  cases hb : Go.Lib.contains s.data.toList (ByteArray.mk #[32]).data.toList with
  | true =>
   go_wp2_with fail
   go_ret
   exact ⟨ret_b (kwB_blank hb).symm, rfl⟩
  | false =>
   go_wp2_with fail
   refine (Tryz.strings_Contains _ _ m _ (by decide +kernel) hm).mono ?_
   rintro e w' ⟨rfl, rfl⟩
   rw [kwB_eq s _ (by decide +kernel) h0 (by assumption)]
   go_wp2_with fail
   go_ret
   exact ⟨rfl, rfl⟩
set_option maxHeartbeats 1000000 in
theorem isName_any (s : ByteArray) (m : Int) (w : World) (hs : s.size ≤ maxLen) (hm : w.cell? ⟨0, 0, none⟩ = some (.int .i64 m)) :
  Calls Tryz.prog 11 #[.string s] w fun e w' => e = .returned (.bool (nameB s)) ∧ w = w' := by
 have hn := hide (nameB_eq s)
 go_enter Tryz.func11, Tryz.ntmps11
 cases ha : ((s.extract 0 (wlen s)).toList == s.toList) with
 | false =>
  go_wp2_with (go_at_call 23; refine (word_any _ _ hs).mono ?_; rintro e w' ⟨rfl, rfl⟩)
  go_ret
  exact ⟨ret_b (by rw [hn.out, ha]; rfl), rfl⟩
 | true =>
  by_cases h0 : 0 < s.size
  ·have h0' : s.toList.isEmpty = false := isEmpty_false h0
   by_cases h16 : s.size ≤ 16
   ·cases hd : digitB (s[0].toNat : Nat) with
    | true =>
     go_wp2_with (first | (go_at_call 23; refine (word_any _ _ hs).mono ?_; rintro e w' ⟨rfl, rfl⟩) | (go_at_call 24; refine (isDigit_any _ _).mono ?_; rintro e w' ⟨rfl, rfl⟩))
     go_ret
     exact ⟨ret_b (by rw [hn.out, headD_eq h0, hd]; simp), rfl⟩
    | false =>
     go_wp2_with (first | (go_at_call 23; refine (word_any _ _ hs).mono ?_; rintro e w' ⟨rfl, rfl⟩) | (go_at_call 24; refine (isDigit_any _ _).mono ?_; rintro e w' ⟨rfl, rfl⟩) | (go_at_call 9; refine (isKeyword_any _ m _ (by omega) hm).mono ?_; rintro e w' ⟨rfl, rfl⟩))
     go_ret
     exact ⟨ret_b (by rw [hn.out, headD_eq h0, hd, ha, h0']; simp [h16]), rfl⟩
   ·go_wp2_with (go_at_call 23; refine (word_any _ _ hs).mono ?_; rintro e w' ⟨rfl, rfl⟩)
    go_ret
    exact ⟨ret_b (by rw [hn.out]; simp [h16]), rfl⟩
  ·have h0' : s.toList.isEmpty = true := isEmpty_true h0
   go_wp2_with (go_at_call 23; refine (word_any _ _ hs).mono ?_; rintro e w' ⟨rfl, rfl⟩)
   go_ret
   exact ⟨ret_b (by rw [hn.out, h0']; simp), rfl⟩
theorem kwArr_sl (w : World) (t : TypeId) : Sl 1 rStr (w.alloc (.cells (kwArr.map Value.string).toArray t)) (w.heap.size + 1) (some ⟨w.heap.size, 0, none⟩) kwArr :=
 Sl.new1 kwArr Value.string t (by decide) fun x hx => ⟨rfl, by have := kwArr_size x hx; simp [maxLen]; omega⟩
theorem kwArr_len : kwArr.length = 32 := rfl
set_option maxHeartbeats 400000 in
theorem isKeyword03_any (s : ByteArray) (w : World) :
  Calls Tryz.prog 10 #[.string s] w fun e w' => e = .returned (.bool (kwB s)) ∧ Below w.heap.size w w' := by
 have hkb := hide (kwB_arr s)
 go_enter Tryz.func10, Tryz.ntmps10
 go_wp2
 have hb1 : Below w.heap.size w (w.alloc (.cells (kwArr.map Value.string).toArray 9)) := (Below.refl _ _).alloc (Nat.le_refl _) _
 have hsl := kwArr_sl w 9
 change Code.wp _ _ _ _ (w.alloc (.cells (kwArr.map Value.string).toArray 9))
 generalize w.alloc (.cells (kwArr.map Value.string).toArray 9) = w1 at hb1 hsl ⊢
 go_loop [4] (fun i => ∃ k : Nat, k ≤ 32 ∧ i = .int .i64 k ∧ s ∉ kwArr.take k) (fun i => 32 - (intOf i).toNat)
 case atStart => exact ⟨0, Nat.zero_le _, rfl, by simp⟩
 case round =>
  obtain ⟨k, hk, rfl, hc⟩ := hrel
  by_cases hlt : k < 32
  ·obtain ⟨b, o, hA, hb, hcell, -⟩ := hsl.str (i := k) (by rw [kwArr_len]; exact hlt)
   obtain ⟨rfl, rfl⟩ : b = w.heap.size ∧ o = 0 := by simp at hA; omega
   have hk' : k < kwArr.length := by rw [kwArr_len]; exact hlt
   simp only [Nat.zero_add] at hcell
   clear hA hsl
   by_cases he : kwArr[k] = s
   ·have ht := str_eq he
    have hv := hide (show s ∈ kwArr from by rw [← he]; exact List.getElem_mem _)
    clear he
    generalize kwArr[k] = kk at hcell ht
    go_wp2
    go_ret
    exact ⟨ret_b (by rw [hkb.out]; simpa using hv.out), hb1⟩
   ·have ht := str_ne he
    have hv := hide (notMem_take_snoc hk' hc he)
    clear he
    generalize kwArr[k] = kk at hcell ht
    go_wp2
    go_round
    case rel => exact ⟨k + 1, by omega, by go_num, hv.out⟩
    case measure => simp [intOf]; omega
  ·go_wp2
   go_ret
   exact ⟨ret_b (by rw [hkb.out]; simpa using notMem_of_take (xs := kwArr) hk hlt hc), hb1⟩
set_option maxHeartbeats 1000000 in
theorem isName03_any (s : ByteArray) (w : World) :
  Calls Tryz.prog 12 #[.string s] w fun e w' => e = .returned (.bool (nameB s)) ∧ Below w.heap.size w w' := by
 go_enter Tryz.func12, Tryz.ntmps12
 by_cases h0 : s.size < 1
 ·have hv := hide (show nameB s = false from by simp [nameB]; omega)
  go_wp2
  go_ret
  exact ⟨ret_b hv.out.symm, bl_self⟩
 ·by_cases h16 : 16 < s.size
  ·have hv := hide (show nameB s = false from by simp [nameB]; omega)
   go_wp2
   go_ret
   exact ⟨ret_b hv.out.symm, bl_self⟩
  ·have h0' : 0 < s.size := by omega
   have hhd := hide (headD_eq h0')
   cases hd : digitB (s[0].toNat : Nat) with
   | true =>
    have hv := hide (show nameB s = false from by rw [nameB, hhd.out, hd]; simp)
    go_wp2_with (go_at_call 25; refine (digit03_any _ _).mono ?_; rintro e w' ⟨rfl, rfl⟩)
    go_ret
    exact ⟨ret_b hv.out.symm, bl_self⟩
   | false =>
    cases hkw : kwB s with
    | true =>
     have hv := hide (show nameB s = false from by simp [nameB, hkw])
     go_wp2_with (first | (go_at_call 25; refine (digit03_any _ _).mono ?_; rintro e w' ⟨rfl, rfl⟩) | (go_at_call 10; refine (isKeyword03_any _ _).mono ?_; rintro e w1 ⟨rfl, hb1⟩))
     go_ret
     exact ⟨ret_b hv.out.symm, hb1⟩
    | false =>
     have hv := hide (show nameB s = s.data.toList.all (fun c => wordB c.toNat) from by rw [nameB, hhd.out, hd, hkw]; simp; omega)
     go_wp2_with (first | (go_at_call 25; refine (digit03_any _ _).mono ?_; rintro e w' ⟨rfl, rfl⟩) | (go_at_call 10; refine (isKeyword03_any _ _).mono ?_; rintro e w1 ⟨rfl, hb1⟩))
     go_loop [3] (fun i => ∃ k : Nat, k ≤ s.size ∧ i = .int .i64 k ∧ k ≤ wlen s) (fun i => s.size - (intOf i).toNat)
     case atStart => exact ⟨0, Nat.zero_le _, rfl, Nat.zero_le _⟩
     case round =>
      obtain ⟨k, hk, rfl, hc⟩ := hrel
      by_cases hlt : k < s.size
      ·cases hw : wordB (s[k].toNat : Nat) with
       | true =>
        have hv' := hide (wlen_succ hlt hc hw)
        cases hl : letterB (s[k].toNat : Nat) with
        | true =>
         go_wp2_with (first | (go_at_call 25; refine (digit03_any _ _).mono ?_; rintro e w' ⟨rfl, rfl⟩) | (go_at_call 26; refine (letter03_any _ _).mono ?_; rintro e w' ⟨rfl, rfl⟩))
         go_round
         case rel => exact ⟨k + 1, by omega, by go_num, hv'.out⟩
         case measure => simp [intOf]; omega
        | false =>
         have hdd : digitB (s[k].toNat : Nat) = true := by simpa [wordB, hl] using hw
         go_wp2_with (first | (go_at_call 25; refine (digit03_any _ _).mono ?_; rintro e w' ⟨rfl, rfl⟩) | (go_at_call 26; refine (letter03_any _ _).mono ?_; rintro e w' ⟨rfl, rfl⟩))
         go_round
         case rel => exact ⟨k + 1, by omega, by go_num, hv'.out⟩
         case measure => simp [intOf]; omega
       | false =>
        have hv' := hide (show nameB s = false from by
         have := wlen_stop hlt hc hw
         rw [hv.out, Bool.eq_false_iff, Ne, ← wlenL_all]
         simp [wlen] at this ⊢; omega)
        have hl : letterB (s[k].toNat : Nat) = false := by simp [wordB] at hw; exact hw.2
        have hdd : digitB (s[k].toNat : Nat) = false := by simp [wordB] at hw; exact hw.1
        go_wp2_with (first | (go_at_call 25; refine (digit03_any _ _).mono ?_; rintro e w' ⟨rfl, rfl⟩) | (go_at_call 26; refine (letter03_any _ _).mono ?_; rintro e w' ⟨rfl, rfl⟩))
        go_ret
        exact ⟨ret_b hv'.out.symm, hb1⟩
      ·have hv' := hide (show nameB s = true from by
        have := wlen_end hk hlt hc
        rw [hv.out, ← wlenL_all]
        simp [wlen] at this ⊢; omega)
       go_wp2
       go_ret
       exact ⟨ret_b hv'.out.symm, hb1⟩
end Go.Proofs.YtmapiiclmmmpbaaGreatDoor

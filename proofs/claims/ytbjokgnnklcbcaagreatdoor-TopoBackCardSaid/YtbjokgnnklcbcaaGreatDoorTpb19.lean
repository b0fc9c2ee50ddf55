import Derived.Test.YtbjokgnnklcbcaaGreatDoorTpb17
import Derived.Test.YtbjokgnnklcbcaaGreatDoorTpb18
import Derived.Sort.OwnSortedInts
set_option linter.all false
/-! Layer 13: rows of ports. -/
namespace Go.Proofs.YtbjokgnnklcbcaaGreatDoor
open Go.RowKit
theorem int_infoP : (Tryz.prog.info? 3).map (fun i => (i.zero, i.size, i.bytes)) = some (some (.int .i64 0), 1, 8) := by kernel_rfl
/-- Ports in a row of the call's own. -/
def IpS (w : World) (base : Nat) (v : Value) (l : List Int) : Prop := w.ownsRow base 3 1 v l.length (l.map (Value.int .i64))
theorem IpS.nil_ (w : World) (base : Nat) : IpS w base (.slice none 0 0) [] := World.ownsRow_nil _ _ _ _
theorem IpS.below {w w' : World} {base C : Nat} {v : Value} {l : List Int} (h : IpS w base v l) (hb : Below C w w') (hC : w.heap.size ≤ C) : IpS w' base v l := own_belowR h hb hC
theorem IpS.grg {w w' : World} {base g : Nat} {v : Value} {l : List Int} (h : IpS w base v l) (hG : Grg g w w') (hg : g < base) : IpS w' base v l := by
 refine ⟨h.1, ?_⟩
 rcases h.2 with h2 | ⟨b, cap, cur, rfl, hb, hh, r⟩
 ·exact .inl h2
 ·exact .inr ⟨b, cap, cur, rfl, hb, (hG.block b (h.lt b rfl).2 (by simp; omega)).trans hh, r⟩
theorem IpS.form {w : World} {base : Nat} {v : Value} {l : List Int} (h : IpS w base v l) : ∃ A cap, v = .slice A l.length cap := by
 rcases h.2 with ⟨rfl, hz⟩ | ⟨g, cap, cur, rfl, _⟩
 ·exact ⟨none, 0, by rw [hz]⟩
 ·exact ⟨_, _, rfl⟩
theorem IpS.sl {w : World} {base : Nat} {A : Option Addr} {n cap : Nat} {l : List Int} (h : IpS w base (.slice A n cap) l) : Sl 1 rInt w w.heap.size A l := by
 have hf : l.map (Value.int .i64) = l.flatMap fun x => [Value.int .i64 x] := by clear h; induction l <;> simp_all
 obtain ⟨A', cap', e, hS⟩ : ∃ A' cap', Value.slice A n cap = .slice A' l.length cap' ∧ Sl 1 rInt w w.heap.size A' l := by
  refine own_sl (f := fun x => [Value.int .i64 x]) (fun _ => rfl) (fun _ _ => rfl) (base := base) (e := 3) ?_
  rw [← hf]; exact h
 injection e with e1 e2 e3
 rw [e1]; exact hS
theorem append_ip {W : World} {base : Nat} {v : Value} {l : List Int} (x : Int) (hd : IpS W base v l) (hb : base ≤ W.heap.size) (hz : l.length ≤ 1000) :
  ∃ v' w', (AppG #[39, 39] 39 #[v, .slice (some ⟨W.heap.size, 0, none⟩) 1 1]).run Tryz.prog (W.alloc (.cells #[.int .i64 x] 3)) = .ok v' w' ∧ IpS w' base v' (l ++ [x]) ∧ Below base W w' := by
 obtain ⟨ii, hii, hzi0, hzi1, hzi2⟩ := info_parts int_infoP
 obtain ⟨v', w', hrun, h2, h3, _, _⟩ := run_append_own_at (P := Tryz.prog) (W.alloc (.cells #[.int .i64 x] 3)) base 39 39 3 ii (.int .i64 0) 1 8 Tryz.underlying39 hii hzi0 hzi1 hzi2 rfl (by omega) v l.length _ (World.ownsRow.alloc hd _) ⟨W.heap.size, 0, none⟩ 1 1 [.int .i64 x] rfl (World.news_of_block (cs := #[.int .i64 x]) (t := 3) (fr := (0, 0)) (heap_alloc_new W _)) (by simp [Value.oneCell']) (by simp [maxLen]; omega) (by omega) (by simp; omega)
 exact ⟨v', w', hrun, by unfold IpS; simpa using h2, (((Below.refl _ _).alloc hb _).grown h3 (by simp; omega) (fun g e => (hd.lt g e).1))⟩
/-- How the library's Sort ends. -/
def SortC : Prop := (∀ (blk cap : Nat) (zs : List Int) (w : World), Go.Sort.Holds (Value.int .i64) w blk 0 zs.toArray → blk < w.heap.size → zs.length < 4611686018427387904 →
  Calls Tryz.prog 75 #[.slice (some ⟨blk, 0, none⟩) zs.length cap] w fun e w' => e = .returned (.tuple #[]) ∧ ∃ n os, w' = Go.Sort.grow (Go.Sort.putRow (Value.int .i64) (Go.Sort.ahead w n) blk 0 (zs.mergeSort fun x y => decide (x ≤ y)).toArray) os) ∧
 (∀ (p : Option Addr) (cap : Nat) (w : World), Calls Tryz.prog 75 #[.slice p 0 cap] w fun e w' => e = .returned (.tuple #[]) ∧ w' = w)
theorem sort_same {l : List Int} (hn : l.Nodup) (h : ∀ x ∈ l, 1 ≤ x ∧ x ≤ 511) : l.mergeSort (fun x y => decide (x ≤ y)) = sortP l := by
 have hp := List.mergeSort_perm l (fun x y => decide (x ≤ y))
 have hs := List.pairwise_mergeSort (le := fun x y : Int => decide (x ≤ y)) (fun a b c h1 h2 => by simp at *; omega) (fun a b => by simp; omega) l
 refine rise_ext' _ _ ?_ (sortP_rises l) fun x => ?_
 ·have hn2 := (hp.nodup_iff).2 hn
  rw [List.nodup_iff_pairwise_ne] at hn2
  exact (hs.and hn2).imp fun ⟨a, b⟩ => by simp at a; omega
 ·rw [sortP_mem, hp.mem_iff]
  exact ⟨fun g => ⟨h x g, g⟩, fun g => g.2⟩
theorem sort13 (hS : SortC) {w : World} {base g : Nat} {v : Value} {l : List Int} (h : IpS w base v l) (hn : l.Nodup) (hr : ∀ x ∈ l, 1 ≤ x ∧ x ≤ 511) (h8 : l.length ≤ 100) (hgb : g < base) (hbw : base ≤ w.heap.size) :
  Calls Tryz.prog 75 #[v] w fun e w' => e = .returned (.tuple #[]) ∧ IpS w' base v (sortP l) ∧ (sortP l).length = l.length ∧ Below base w w' := by
 have hss := sort_same hn hr
 have hlen : (sortP l).length = l.length := by rw [← hss]; exact List.length_mergeSort l
 rcases h.2 with ⟨rfl, hz⟩ | ⟨b, cap, cur, rfl, hb, hh, h1, h2, h3, h4⟩
 ·have hl : l = [] := List.eq_nil_of_length_eq_zero hz
  subst hl
  refine (hS.2 none 0 w).mono ?_
  rintro e w' ⟨rfl, rfl⟩
  refine ⟨rfl, ?_, hlen, Below.refl _ _⟩
  have : sortP [] = [] := List.eq_nil_of_length_eq_zero (by simpa using hlen)
  rw [this]; exact h
 ·have hlt := h.lt b rfl
  have hlm : (l.map (Value.int .i64)).length = l.length := List.length_map _
  refine (hS.1 b cap l w (Go.holds_of_blockI hh (by simpa using h4)) hlt.2 (by omega)).mono ?_
  rintro e w' ⟨rfl, n, os, rfl⟩
  refine ⟨rfl, ?_, hlen, ?_⟩
  ·have := Go.ownsRow_sortedI (n := n) (os := os) (ss := l) (ts := sortP l) hlen hb hh (by omega) h2 (by simpa using h3)
   unfold IpS
   rw [hss, hlen]
   exact this
  ·have := Go.grownBy_sortedI (w := w) (g := b) (n := n) (os := os) (l.mergeSort fun x y => decide (x ≤ y)).toArray
   exact ⟨this.os, this.tape, this.output, this.size, fun k hk => this.block k (by omega) (by simp; omega)⟩
end Go.Proofs.YtbjokgnnklcbcaaGreatDoor

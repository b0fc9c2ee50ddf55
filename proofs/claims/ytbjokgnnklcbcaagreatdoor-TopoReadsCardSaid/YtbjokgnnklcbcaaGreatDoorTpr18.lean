import Derived.Test.YtbjokgnnklcbcaaGreatDoorTpr17
import Derived.Deep.RegionHeld3
import Derived.WideKeyRuns
import Derived.Test.YtbjokgnnklcbcaaGreatDoorTpr02
set_option linter.all false
namespace Go.Proofs.YtbjokgnnklcbcaaGreatDoor
open Go.RowKit
def sameB (a b : Net) : Bool := decide (a.sw = b.sw) && decide (a.ports = b.ports) && decide (a.links = b.links)
theorem sameB_no {a b : Net} (h : ¬ (a.sw = b.sw ∧ a.ports = b.ports ∧ a.links = b.links)) : sameB a b = false := by
 rw [Bool.eq_false_iff]; intro g; simp [sameB] at g; exact h ⟨g.1.1, g.1.2, g.2⟩
theorem eq_of_take {α : Type} {xs ys : List α} {k : Nat} (hl : xs.length = ys.length) (hn : ¬ k < xs.length) (h : xs.take k = ys.take k) : xs = ys := by
 rwa [List.take_of_length_le (by omega), List.take_of_length_le (by omega)] at h
theorem link_ne {a b : (Int × Int) × (Int × Int)} (h : ¬ a = b) : (¬ a.1.1 = b.1.1) ∨ (a.1.1 = b.1.1 ∧ ¬ a.1.2 = b.1.2) ∨ (a.1.1 = b.1.1 ∧ a.1.2 = b.1.2 ∧ ¬ a.2.1 = b.2.1) ∨ (a.1.1 = b.1.1 ∧ a.1.2 = b.1.2 ∧ a.2.1 = b.2.1 ∧ ¬ a.2.2 = b.2.2) := by
 by_cases e1 : a.1.1 = b.1.1
 ·by_cases e2 : a.1.2 = b.1.2
  ·by_cases e3 : a.2.1 = b.2.1
   ·exact .inr (.inr (.inr ⟨e1, e2, e3, fun e4 => h (Prod.ext (Prod.ext e1 e2) (Prod.ext e3 e4))⟩))
   ·exact .inr (.inr (.inl ⟨e1, e2, e3⟩))
  ·exact .inr (.inl ⟨e1, e2⟩)
 ·exact .inl e1
set_option maxHeartbeats 2000000 in
theorem same_any (a b : Net) (A1 A2 A3 B1 B2 B3 : Option Addr) (c1 c2 c3 d1 d2 d3 : Nat) (w : World) (ha : NetS w w.heap.size A1 A2 A3 a) (hb : NetS w w.heap.size B1 B2 B3 b) :
  Calls Tryz.prog 8 #[netV a A1 A2 A3 c1 c2 c3, netV b B1 B2 B3 d1 d2 d3] w fun e w' => e = .returned (.bool (sameB a b)) ∧ Below w.heap.size w w' := by
 obtain ⟨h1, h2, h3⟩ := ha
 obtain ⟨g1, g2, g3⟩ := hb
 have l1 := h1.len
 have l2 := h2.len
 have l3 := h3.len
 have hbw : ∀ o1 o2 : Obj, ∀ m : Nat, Below w.heap.size w (((w.alloc o1).alloc o2).drewN m) := fun o1 o2 m => below_drewN (((Below.refl _ _).alloc (Nat.le_refl _) _).alloc (by simp) _) m
 go_enter Tryz.func8, Tryz.ntmps8
 by_cases e1 : a.sw.length = b.sw.length
 ·have b1 : ((a.sw.length : Int) != b.sw.length) = false := by simp [e1]
  have E1 := hide e1
  by_cases e2 : a.ports.length = b.ports.length
  ·have b2 : ((a.ports.length : Int) != b.ports.length) = false := by simp [e2]
   have E2 := hide e2
   by_cases e3 : a.links.length = b.links.length
   ·have b3 : ((a.links.length : Int) != b.links.length) = false := by simp [e3]
    have E3 := hide e3
    clear e1 e2 e3
    go_wp2
    go_loopw [5] (fun i wr => ∃ k : Nat, k ≤ a.sw.length ∧ i = .int .i64 k ∧ Hid (a.sw.take k = b.sw.take k) ∧ ∃ m, wr = ((w.alloc (.cells #[.slice A1 a.sw.length c1, .slice A2 a.ports.length c2, .slice A3 a.links.length c3] 27)).alloc (.cells #[.slice B1 b.sw.length d1, .slice B2 b.ports.length d2, .slice B3 b.links.length d3] 27)).drewN m) (fun i _ => a.sw.length - (intOf i).toNat)
    case atStart => exact ⟨0, Nat.zero_le _, rfl, hide (by simp), 0, rfl⟩
    case round =>
     obtain ⟨k, hk, rfl, hc, m, rfl⟩ := hrel
     by_cases hlt : k < a.sw.length
     ·obtain ⟨x, o, rfl, hx, hcell, -⟩ := h1.str hlt
      have hlt' : k < b.sw.length := by have := E1.out; omega
      obtain ⟨x', o', rfl, hx', hcell', -⟩ := g1.str hlt'
      clear h1 g1
      by_cases he : a.sw[k] = b.sw[k]
      ·have ht := str_eq he
       have hv := hide (take_snoc_eq hlt hlt' hc.out he)
       clear he
       go_wp2_with fail
       go_quiet (fail)
       go_wp2
       go_roundw
       case rel => exact ⟨k + 1, by omega, by go_num, hv, m + nq, rfl⟩
       case measure => simp [intOf]; omega
      ·have ht := str_ne he
       have hv := hide (sameB_no (a := a) (b := b) (fun g => he (by simp [g.1])))
       clear he
       go_wp2_with fail
       go_quiet (fail)
       go_wp2
       go_ret
       exact ⟨ret_b hv.out.symm, below_drewN (hbw _ _ _) _⟩
     ·have S1 := hide (eq_of_take E1.out hlt hc.out)
      clear hc h1 g1
      go_wp2
      go_loopw [6, 7] (fun i _ wr => ∃ k : Nat, k ≤ a.ports.length ∧ i = .int .i64 k ∧ Hid (a.ports.take k = b.ports.take k) ∧ ∃ m, wr = ((w.alloc (.cells #[.slice A1 a.sw.length c1, .slice A2 a.ports.length c2, .slice A3 a.links.length c3] 27)).alloc (.cells #[.slice B1 b.sw.length d1, .slice B2 b.ports.length d2, .slice B3 b.links.length d3] 27)).drewN m) (fun i _ _ => a.ports.length - (intOf i).toNat)
      case atStart => exact ⟨0, Nat.zero_le _, rfl, hide (by simp), m, rfl⟩
      case round =>
       obtain ⟨k2, hk2, rfl, hc, m2, rfl⟩ := hrel
       by_cases hlt2 : k2 < a.ports.length
       ·obtain ⟨x, o, P, pc, rfl, hx, hcell, hp⟩ := h2.ints hlt2
        have hlt2' : k2 < b.ports.length := by have := E2.out; omega
        obtain ⟨x', o', P', pc', rfl, hx', hcell', hp'⟩ := g2.ints hlt2'
        have lp := hp.len
        clear h2 g2
        by_cases he : a.ports[k2].length = b.ports[k2].length
        ·have hbt : ((a.ports[k2].length : Int) != b.ports[k2].length) = false := by simp [he]
         have he := hide he
         go_wp2_with fail
         go_quiet (fail)
         go_wp2
         go_loopw [7] (fun i wr => ∃ k : Nat, k ≤ a.ports[k2].length ∧ i = .int .i64 k ∧ Hid (a.ports[k2].take k = b.ports[k2].take k) ∧ ∃ m, wr = ((w.alloc (.cells #[.slice A1 a.sw.length c1, .slice (some ⟨x, o, none⟩) a.ports.length c2, .slice A3 a.links.length c3] 27)).alloc (.cells #[.slice B1 b.sw.length d1, .slice (some ⟨x', o', none⟩) b.ports.length d2, .slice B3 b.links.length d3] 27)).drewN m) (fun i _ => a.ports[k2].length - (intOf i).toNat)
         case atStart => exact ⟨0, Nat.zero_le _, rfl, hide (by simp), m2 + nq, drN _ _ _⟩
         case round =>
          obtain ⟨k3, hk3, rfl, hc3, m3, rfl⟩ := hrel
          by_cases hlt3 : k3 < a.ports[k2].length
          ·obtain ⟨y, u, rfl, hy, hcy⟩ := hp.int hlt3
           have hlt3' : k3 < b.ports[k2].length := by have := he.out; omega
           obtain ⟨y', u', rfl, hy', hcy'⟩ := hp'.int hlt3'
           clear hp hp'
           by_cases hq : a.ports[k2][k3] = b.ports[k2][k3]
           ·have hbq : (a.ports[k2][k3] != b.ports[k2][k3]) = false := by simp [hq]
            have hv := hide (take_snoc_eq hlt3 hlt3' hc3.out hq)
            clear hq
            go_wp2_with fail
            go_quiet (fail)
            go_wp2
            go_roundw
            case rel => exact ⟨k3 + 1, by omega, by go_num, hv, m3 + _, rfl⟩
            case measure => simp [intOf]; omega
           ·have hbq : (a.ports[k2][k3] != b.ports[k2][k3]) = true := by simp [hq]
            have hv := hide (sameB_no (a := a) (b := b) (fun g => hq (by simp [g.2.1])))
            clear hq
            go_wp2_with fail
            go_quiet (fail)
            go_wp2
            go_ret
            exact ⟨ret_b hv.out.symm, below_drewN (hbw _ _ _) _⟩
          ·have S2 := hide (take_snoc_eq hlt2 hlt2' hc.out (eq_of_take he.out hlt3 hc3.out))
           go_wp2
           go_roundw
           case rel => exact ⟨k2 + 1, by omega, by go_num, S2, m3, rfl⟩
           case measure => simp [intOf]; omega
        ·have hbt : ((a.ports[k2].length : Int) != b.ports[k2].length) = true := by simp; omega
         have hv := hide (sameB_no (a := a) (b := b) (fun g => he (by simp [g.2.1])))
         clear he
         go_wp2_with fail
         go_quiet (fail)
         go_wp2
         go_ret
         exact ⟨ret_b hv.out.symm, below_drewN (hbw _ _ _) _⟩
       ·have S2 := hide (eq_of_take E2.out hlt2 hc.out)
        clear hc h2 g2
        go_wp2
        go_loopw [8] (fun i wr => ∃ k : Nat, k ≤ a.links.length ∧ i = .int .i64 k ∧ Hid (a.links.take k = b.links.take k) ∧ ∃ m, wr = ((w.alloc (.cells #[.slice A1 a.sw.length c1, .slice A2 a.ports.length c2, .slice A3 a.links.length c3] 27)).alloc (.cells #[.slice B1 b.sw.length d1, .slice B2 b.ports.length d2, .slice B3 b.links.length d3] 27)).drewN m) (fun i _ => a.links.length - (intOf i).toNat)
        case atStart => exact ⟨0, Nat.zero_le _, rfl, hide (by simp), m2, rfl⟩
        case round =>
         obtain ⟨k4, hk4, rfl, hc, m4, rfl⟩ := hrel
         by_cases hlt4 : k4 < a.links.length
         ·obtain ⟨x, o, rfl, hx, x1, x2, x3, x4⟩ := h3.link hlt4
          have hlt4' : k4 < b.links.length := by have := E3.out; omega
          obtain ⟨x', o', rfl, hx', y1, y2, y3, y4⟩ := g3.link hlt4'
          clear h3 g3
          by_cases he : a.links[k4] = b.links[k4]
          ·have hv := hide (take_snoc_eq hlt4 hlt4' hc.out he)
           go_wp2_with fail
           go_quiet (fail)
           go_wp2
           go_roundw
           case rel => exact ⟨k4 + 1, by omega, by go_num, hv, m4 + _, rfl⟩
           case measure => simp [intOf]; omega
          ·have hv := hide (sameB_no (a := a) (b := b) (fun g => he (by simp [g.2.2])))
           rcases link_ne he with f1 | ⟨f1, f2⟩ | ⟨f1, f2, f3⟩ | ⟨f1, f2, f3, f4⟩ <;> clear he
           all_goals
            go_wp2_with fail
            go_quiet (fail)
            go_wp2
            go_ret
            exact ⟨ret_b hv.out.symm, below_drewN (hbw _ _ _) _⟩
         ·have hv := hide (show sameB a b = true from by simp [sameB, S1.out, S2.out, eq_of_take E3.out hlt4 hc.out])
          go_wp2
          go_ret
          exact ⟨ret_b hv.out.symm, hbw _ _ _⟩
   ·have b3 : ((a.links.length : Int) != b.links.length) = true := by simp; omega
    have hv := hide (sameB_no (a := a) (b := b) (fun g => e3 (by rw [g.2.2])))
    clear e1 e2
    go_wp2
    go_ret
    exact ⟨ret_b hv.out.symm, hbw _ _ 0⟩
  ·have b2 : ((a.ports.length : Int) != b.ports.length) = true := by simp; omega
   have hv := hide (sameB_no (a := a) (b := b) (fun g => e2 (by rw [g.2.1])))
   clear e1
   go_wp2
   go_ret
   exact ⟨ret_b hv.out.symm, hbw _ _ 0⟩
 ·have b1 : ((a.sw.length : Int) != b.sw.length) = true := by simp; omega
  have hv := hide (sameB_no (a := a) (b := b) (fun g => e1 (by rw [g.1])))
  go_wp2
  go_ret
  exact ⟨ret_b hv.out.symm, hbw _ _ 0⟩
end Go.Proofs.YtbjokgnnklcbcaaGreatDoor
namespace Go.Proofs.YtbjokgnnklcbcaaGreatDoor
open Go.RowKit
theorem own_ne {w : World} {base : Nat} {e : TypeId} {size : Nat} {v : Value} {n : Nat} {xs : List Value} (h : w.ownsRow base e size v n xs) {g : Nat} (hg : g < base) : v.ownBlock ≠ some g := by
 intro e
 have := (h.lt g e).1
 omega
end Go.Proofs.YtbjokgnnklcbcaaGreatDoor
/-! A map from ends to numbers, that the call makes: its rows as a list. -/
namespace Go.Proofs.YtbjokgnnklcbcaaGreatDoor
open Go.RowKit
abbrev MM := List ((Int × Int) × Int)
def mL (o : Nat) (M : MM) : List MapEntry := (M.zipIdx o).map fun x => ⟨endV x.1.1, .int .i64 x.1.2, x.2⟩
def mEnt (M : MM) : Array MapEntry := (mL 0 M).toArray
def MapS (w : World) (b : Nat) (M : MM) : Prop := w.heap[b]? = some (.map (mEnt M) M.length)
theorem MapS.lt {w : World} {b : Nat} {M : MM} (h : MapS w b M) : b < w.heap.size := by
 rcases Nat.lt_or_ge b w.heap.size with h1 | h1
 ·exact h1
 ·unfold MapS at h; rw [Array.getElem?_eq_none h1] at h; cases h
theorem MapS.alloc {w : World} {b : Nat} {M : MM} (h : MapS w b M) (o : Obj) : MapS (w.alloc o) b M := (Below.heap_alloc w o b h.lt).trans h
theorem MapS.drew {w : World} {b : Nat} {M : MM} (h : MapS w b M) : MapS w.drew b M := h
theorem MapS.below {w w' : World} {b B : Nat} {M : MM} (h : MapS w b M) (hb : Below B w w') (hB : b < B) : MapS w' b M := (hb.block b hB).trans h
end Go.Proofs.YtbjokgnnklcbcaaGreatDoor
/-! Links down: what the two texts compute, as plain lists. -/
namespace Go.Proofs.YtbjokgnnklcbcaaGreatDoor
def stays (n m : Net) (i : Nat) (p : Int) : Bool := (nextB n (i, p)).2.2 == (nextB m (i, p)).2.2
end Go.Proofs.YtbjokgnnklcbcaaGreatDoor
namespace Go.Proofs.YtbjokgnnklcbcaaGreatDoor
open Go.RowKit
/-- Block g is just these cells. -/
def Bk (w : World) (g : Nat) (t : TypeId) (cs : Array Value) : Prop := w.heap[g]? = some (.cells cs t (0, 0))
section
variable {w w' : World} {g : Nat} {t : TypeId} {cs : Array Value}
theorem Bk.lt (h : Bk w g t cs) : g < w.heap.size := by
 rcases Nat.lt_or_ge g w.heap.size with h1 | h1
 ·exact h1
 ·unfold Bk at h; rw [Array.getElem?_eq_none h1] at h; cases h
theorem Bk.cell (h : Bk w g t cs) (i : Nat) : w.cell? ⟨g, i, none⟩ = cs[i]? := cell_of_row w g i cs t (0, 0) h
theorem Bk.frozen (h : Bk w g t cs) (i : Nat) : w.frozen? ⟨g, i, none⟩ = false := by unfold Bk at h; simp [World.frozen?, h]
theorem Bk.new (w : World) (t : TypeId) (cs : Array Value) : Bk (w.alloc (.cells cs t)) w.heap.size t cs := heap_alloc_new w _
theorem Bk.alloc (h : Bk w g t cs) (o : Obj) : Bk (w.alloc o) g t cs := (Below.heap_alloc w o g h.lt).trans h
theorem Bk.drewN (h : Bk w g t cs) (n : Nat) : Bk (w.drewN n) g t cs := h
theorem Bk.drew (h : Bk w g t cs) : Bk w.drew g t cs := h
theorem Bk.below {B : Nat} (h : Bk w g t cs) (hb : Below B w w') (hg : g < B) : Bk w' g t cs := (hb.block g hg).trans h
theorem Bk.grown {row : Option Nat} (h : Bk w g t cs) (hb : w.grownBy w' row) (hg : some g ≠ row) : Bk w' g t cs := (hb.block g h.lt hg).trans h
theorem Bk.far (h : Bk w g t cs) {p : Addr} (hp : g ≠ p.block) (u : Value) : Bk (w.setCell p u) g t cs := (Below.heap_setCell w p u g hp).trans h
theorem Bk.ne_own {base : Nat} {e : TypeId} {size n : Nat} {v : Value} {xs : List Value} (h : Bk w g t cs) (ho : w.ownsRow base e size v n xs) (hne : e ≠ t) : v.ownBlock ≠ some g := by
 rcases ho.2 with ⟨rfl, _⟩ | ⟨g', cap, cur, rfl, _, hh, _⟩
 ·simp [Value.ownBlock]
 ·intro he
  have : g' = g := by simpa [Value.ownBlock] using he
  subst this
  unfold Bk at h
  rw [h] at hh
  injection hh with hh
  injection hh with _ ht
  exact hne ht.symm
end
theorem own_ne_own {w : World} {base base' : Nat} {e e' : TypeId} {size size' n n' : Nat} {v v' : Value} {xs xs' : List Value} (h : w.ownsRow base e size v n xs) (h' : w.ownsRow base' e' size' v' n' xs') (hne : e ≠ e') :
  v'.ownBlock = none ∨ v'.ownBlock ≠ v.ownBlock := by
 rcases h'.2 with ⟨rfl, _⟩ | ⟨g', cap, cur, rfl, _, hh, _⟩
 ·exact .inl rfl
 ·right
  intro e
  exact Bk.ne_own (g := g') (t := e') (cs := cur) hh h hne (by rw [← e]; rfl)
theorem own_setCell {w : World} {base : Nat} {e : TypeId} {size : Nat} {v : Value} {n : Nat} {xs : List Value} (h : w.ownsRow base e size v n xs) {p : Addr} (hp : v.ownBlock ≠ some p.block) (u : Value) : (w.setCell p u).ownsRow base e size v n xs := by
 refine ⟨h.1, ?_⟩
 rcases h.2 with h2 | ⟨g, cap, cur, rfl, hg, hh, r⟩
 ·exact .inl h2
 ·refine .inr ⟨g, cap, cur, rfl, hg, ?_, r⟩
  rw [Below.heap_setCell _ _ _ _ (fun e => hp (by rw [← e]; rfl))]; exact hh
theorem own_below {w w' : World} {base B : Nat} {e : TypeId} {size : Nat} {v : Value} {n : Nat} {xs : List Value} (h : w.ownsRow base e size v n xs) (hb : Below B w w') (hB : w.heap.size ≤ B) : w'.ownsRow base e size v n xs := by
 refine ⟨h.1, ?_⟩
 rcases h.2 with h2 | ⟨g, cap, cur, rfl, hg, hh, r⟩
 ·exact .inl h2
 ·have := (h.lt g rfl).2
  exact .inr ⟨g, cap, cur, rfl, hg, (hb.block g (by omega)).trans hh, r⟩
/-- What 'out' holds: names, rows of ports, links. -/
structure OutS (w : World) (base bo : Nat) (v0 v1 v2 : Value) (sw : List ByteArray) (ps : List (List Int)) (ls : List ((Int × Int) × (Int × Int))) : Prop where
 box : Bk w bo 27 #[v0, v1, v2]
 own0 : w.ownsRow base 9 1 v0 sw.length (sw.map Value.string)
 own2 : w.ownsRow base 72 4 v2 ls.length (ls.flatMap fun x => [.int .i64 x.1.1, .int .i64 x.1.2, .int .i64 x.2.1, .int .i64 x.2.2])
 own1 : ∃ vs : List Value, vs.length = ps.length ∧ w.ownsRow base 39 1 v1 ps.length vs ∧ ∀ (i : Nat) (v : Value) (p : List Int), vs[i]? = some v → ps[i]? = some p → w.ownsRow base 3 1 v p.length (p.map (Value.int .i64))
theorem OutS.below {w w' : World} {base bo B : Nat} {v0 v1 v2 : Value} {sw : List ByteArray} {ps : List (List Int)} {ls : List ((Int × Int) × (Int × Int))} (h : OutS w base bo v0 v1 v2 sw ps ls) (hb : Below B w w') (hB : w.heap.size ≤ B) : OutS w' base bo v0 v1 v2 sw ps ls :=
 ⟨h.box.below hb (by have := h.box.lt; omega), own_below h.own0 hb hB, own_below h.own2 hb hB, by
  obtain ⟨vs, h1, h2, h3⟩ := h.own1
  exact ⟨vs, h1, own_below h2 hb hB, fun i v p hv hp => own_below (h3 i v p hv hp) hb hB⟩⟩
theorem OutS.far {w : World} {base bo bo' i : Nat} {v0 v1 v2 u : Value} {sw : List ByteArray} {ps : List (List Int)} {ls : List ((Int × Int) × (Int × Int))} (h : OutS w base bo v0 v1 v2 sw ps ls) (h1 : bo' < base) (h2 : bo ≠ bo') :
  OutS (w.setCell ⟨bo', i, none⟩ u) base bo v0 v1 v2 sw ps ls :=
 ⟨h.box.far h2 u, own_setCell h.own0 (own_ne h.own0 h1) u, own_setCell h.own2 (own_ne h.own2 h1) u, by
  obtain ⟨vs, a, b, c⟩ := h.own1
  exact ⟨vs, a, own_setCell b (own_ne b h1) u, fun i v p hv hp => own_setCell (c i v p hv hp) (own_ne (c i v p hv hp) h1) u⟩⟩
theorem own_rows {w : World} {base : Nat} {e e' : TypeId} {v : Value} {ps : List (List Int)} {vs : List Value} (h1 : vs.length = ps.length) (h2 : w.ownsRow base e 1 v ps.length vs)
  (h3 : ∀ (i : Nat) (u : Value) (p : List Int), vs[i]? = some u → ps[i]? = some p → w.ownsRow base e' 1 u p.length (p.map (Value.int .i64))) : ∃ A cap, v = .slice A ps.length cap ∧ Sl 1 (rSl 1 rInt) w w.heap.size A ps := by
 have key : ∀ i p, ps[i]? = some p → ∃ A cap, vs[i]? = some (Value.slice A p.length cap) ∧ Sl 1 rInt w w.heap.size A p := fun i p hp => by
  have hi : i < vs.length := by have := (List.getElem?_eq_some_iff.1 hp).1; omega
  have h4 := h3 i vs[i] p (List.getElem?_eq_getElem hi) hp
  have h5 : w.ownsRow base e' 1 vs[i] p.length (p.flatMap fun x => [Value.int .i64 x]) := by rw [← List.map_eq_flatMap]; exact h4
  obtain ⟨A, cap, hv, hs⟩ := own_sl (w := w) (R := rInt) (k := 1) (f := fun x => [Value.int .i64 x]) (xs := p) (fun _ => rfl) (fun _ _ => rfl) h5
  exact ⟨A, cap, by rw [List.getElem?_eq_getElem hi, hv], hs⟩
 rcases h2.2 with ⟨rfl, hz⟩ | ⟨g, cap, cur, rfl, hb, hg, hl, hm, -⟩
 ·have hz' : ps = [] := List.eq_nil_of_length_eq_zero hz
  subst hz'
  exact ⟨none, 0, rfl, Sl.nil_⟩
 ·refine ⟨some ⟨g, 0, none⟩, cap, rfl, by omega, fun i p hp => ?_⟩
  obtain ⟨A, c, hv, hs⟩ := key i p hp
  refine ⟨g, 0, [.slice A p.length c], rfl, (h2.lt g rfl).2, rfl, fun j u hu => ?_, A, c, rfl, hs⟩
  cases j with
  | succ j => simp at hu
  | zero =>
   simp at hu; subst hu
   have := h2.cells (g := g) rfl i _ hv
   have e : (⟨g, 0, none⟩ : Addr).add i = ⟨g, 0 + i * 1 + 0, none⟩ := by unfold Addr.add; split <;> simp_all
   rw [← e]; exact this
theorem OutS.netS {w : World} {base bo : Nat} {v0 v1 v2 : Value} {sw : List ByteArray} {ps : List (List Int)} {ls : List ((Int × Int) × (Int × Int))} (h : OutS w base bo v0 v1 v2 sw ps ls) (hs : ∀ s ∈ sw, s.size ≤ maxLen) :
  ∃ A1 A2 A3 c1 c2 c3, Value.agg #[v0, v1, v2] = netV ⟨sw, ps, ls⟩ A1 A2 A3 c1 c2 c3 ∧ NetS w w.heap.size A1 A2 A3 ⟨sw, ps, ls⟩ := by
 have h5 : w.ownsRow base 9 1 v0 sw.length (sw.flatMap fun x => [Value.string x]) := by rw [← List.map_eq_flatMap]; exact h.own0
 obtain ⟨A1, c1, e1, s1⟩ := own_sl (R := rStr) (k := 1) (f := fun x => [Value.string x]) (xs := sw) (fun _ => rfl) (fun x hx => ⟨rfl, hs x hx⟩) h5
 obtain ⟨A3, c3, e3, s3⟩ := own_sl (R := rLink) (k := 4) (f := fun x => [.int .i64 x.1.1, .int .i64 x.1.2, .int .i64 x.2.1, .int .i64 x.2.2]) (xs := ls) (fun _ => rfl) (fun _ _ => rfl) h.own2
 obtain ⟨vs, h1, h2, h3⟩ := h.own1
 obtain ⟨A2, c2, e2, s2⟩ := own_rows h1 h2 h3
 exact ⟨A1, A2, A3, c1, c2, c3, by rw [e1, e2, e3], s1, s2, s3⟩
end Go.Proofs.YtbjokgnnklcbcaaGreatDoor
/-! Layer 13: the network that a reader holds. -/
namespace Go.Proofs.YtbjokgnnklcbcaaGreatDoor
open Go.RowKit
theorem own_grg {w w' : World} {base g n size : Nat} {e : TypeId} {v : Value} {xs : List Value} (h : w.ownsRow base e size v n xs) (hG : Grg g w w') (hg : g < base) : w'.ownsRow base e size v n xs := by
 refine ⟨h.1, ?_⟩
 rcases h.2 with h2 | ⟨b, cap, cur, rfl, hb, hh, r⟩
 ·exact .inl h2
 ·exact .inr ⟨b, cap, cur, rfl, hb, (hG.block b (h.lt b rfl).2 (by simp; omega)).trans hh, r⟩
/-- The network so far: rows of the call's own. -/
structure NetN (w : World) (g : Nat) (v1 v2 v3 : Value) (n : Net) : Prop where
 size : ∀ s ∈ n.sw, s.size ≤ maxLen
 own0 : w.ownsRow (g + 1) 9 1 v1 n.sw.length (n.sw.map Value.string)
 own2 : w.ownsRow (g + 1) 72 4 v3 n.links.length (n.links.flatMap fun x => [.int .i64 x.1.1, .int .i64 x.1.2, .int .i64 x.2.1, .int .i64 x.2.2])
 own1 : ∃ vs : List Value, vs.length = n.ports.length ∧ w.ownsRow (g + 1) 39 1 v2 n.ports.length vs ∧ ∀ (i : Nat) (v : Value) (p : List Int), vs[i]? = some v → n.ports[i]? = some p → w.ownsRow (g + 1) 3 1 v p.length (p.map (Value.int .i64))
theorem NetN.grg {w w' : World} {g : Nat} {v1 v2 v3 : Value} {n : Net} (h : NetN w g v1 v2 v3 n) (hG : Grg g w w') : NetN w' g v1 v2 v3 n :=
 ⟨h.size, own_grg h.own0 hG (Nat.lt_succ_self _), own_grg h.own2 hG (Nat.lt_succ_self _), by
  obtain ⟨vs, h1, h2, h3⟩ := h.own1
  exact ⟨vs, h1, own_grg h2 hG (Nat.lt_succ_self _), fun i v p hv hp => own_grg (h3 i v p hv hp) hG (Nat.lt_succ_self _)⟩⟩
theorem NetN.netS {w : World} {g : Nat} {v1 v2 v3 : Value} {n : Net} (h : NetN w g v1 v2 v3 n) : ∃ A1 A2 A3 c1 c2 c3, v1 = .slice A1 n.sw.length c1 ∧ v2 = .slice A2 n.ports.length c2 ∧ v3 = .slice A3 n.links.length c3 ∧ NetS w w.heap.size A1 A2 A3 n := by
 have h5 : w.ownsRow (g + 1) 9 1 v1 n.sw.length (n.sw.flatMap fun x => [Value.string x]) := by rw [← List.map_eq_flatMap]; exact h.own0
 obtain ⟨A1, c1, e1, s1⟩ := own_sl (R := rStr) (k := 1) (f := fun x => [Value.string x]) (xs := n.sw) (fun _ => rfl) (fun x hx => ⟨rfl, h.size x hx⟩) h5
 obtain ⟨A3, c3, e3, s3⟩ := own_sl (R := rLink) (k := 4) (f := fun x => [.int .i64 x.1.1, .int .i64 x.1.2, .int .i64 x.2.1, .int .i64 x.2.2]) (xs := n.links) (fun _ => rfl) (fun _ _ => rfl) h.own2
 obtain ⟨vs, h1, h2, h3⟩ := h.own1
 obtain ⟨A2, c2, e2, s2⟩ := own_rows h1 h2 h3
 exact ⟨A1, A2, A3, c1, c2, c3, e1, e2, e3, s1, s2, s3⟩
theorem NetN.nil_ (w : World) (g : Nat) : NetN w g (.slice none 0 0) (.slice none 0 0) (.slice none 0 0) emptyN :=
 ⟨fun s hs => by simp [emptyN] at hs, World.ownsRow_nil _ _ _ _, World.ownsRow_nil _ _ _ _, [], rfl, World.ownsRow_nil _ _ _ _, fun i v p hv => by simp at hv⟩
/-- What end holds: two boxes for its results, and the reader. -/
structure EnS (w W : World) (g : Nat) (l : List Tk) (v1 v2 v3 : Value) (n : Net) (mm : Int) : Prop where
 grg : Grg g w W
 rd : RdB W g l v1 v2 v3
 net : NetN W g v1 v2 v3 n
 m : W.cell? ⟨0, 0, none⟩ = some (.int .i64 mm)
 lt : w.heap.size + 1 < W.heap.size
 u0 : W.cell? ⟨w.heap.size, 0, none⟩ = some (.int .u8 0)
 u1 : W.cell? ⟨w.heap.size, 1, none⟩ = some (.string ⟨#[]⟩)
 u2 : W.cell? ⟨w.heap.size, 2, none⟩ = some (.int .i64 0)
 u3 : W.cell? ⟨w.heap.size, 3, none⟩ = some (.int .u64 0)
 u4 : W.cell? ⟨w.heap.size, 4, none⟩ = some (.int .u64 0)
 u5 : W.cell? ⟨w.heap.size, 5, none⟩ = some (.int .i64 0)
 z0 : W.cell? ⟨w.heap.size + 1, 0, none⟩ = some (.int .i64 0)
 z1 : W.cell? ⟨w.heap.size + 1, 1, none⟩ = some (.int .i64 0)
 fu : ∀ i, W.frozen? ⟨w.heap.size, i, none⟩ = false
 fz : ∀ i, W.frozen? ⟨w.heap.size + 1, i, none⟩ = false
theorem EnS.step {w W W' : World} {g : Nat} {l l' : List Tk} {v1 v2 v3 : Value} {n : Net} {mm : Int} (h : EnS w W g l v1 v2 v3 n mm) (hg0 : 0 < g) (hgw : g < w.heap.size) (hG : Grg g W W') (hR : RdB W' g l' v1 v2 v3) : EnS w W' g l' v1 v2 v3 n mm := by
 have hl := h.lt
 have hz := hG.size
 exact ⟨h.grg.trans hG, hR, h.net.grg hG, (hG.cell (by omega) (by omega)).trans h.m, by omega, (hG.cell (by omega) (by omega)).trans h.u0, (hG.cell (by omega) (by omega)).trans h.u1, (hG.cell (by omega) (by omega)).trans h.u2, (hG.cell (by omega) (by omega)).trans h.u3, (hG.cell (by omega) (by omega)).trans h.u4, (hG.cell (by omega) (by omega)).trans h.u5, (hG.cell (by omega) (by omega)).trans h.z0, (hG.cell (by omega) (by omega)).trans h.z1, fun i => (hG.frozen (by omega) (by omega)).trans (h.fu i), fun i => (hG.frozen (by omega) (by omega)).trans (h.fz i)⟩
theorem EnS.below {w W W' : World} {g : Nat} {l : List Tk} {v1 v2 v3 : Value} {n : Net} {mm : Int} (h : EnS w W g l v1 v2 v3 n mm) (hg0 : 0 < g) (hgw : g < w.heap.size) (hb : Below W.heap.size W W') : EnS w W' g l v1 v2 v3 n mm :=
 h.step hg0 hgw (Grg.of hb) (h.rd.below hb h.rd.lt)
theorem EnS.new {w : World} {g : Nat} {l : List Tk} {v1 v2 v3 : Value} {n : Net} {mm : Int} (h : RdB w g l v1 v2 v3) (hN : NetN w g v1 v2 v3 n) (hg0 : 0 < g) (hm : w.cell? ⟨0, 0, none⟩ = some (.int .i64 mm)) :
  ∃ wa wb, w.alloc (.cells #[.int .u8 0, .string ⟨#[]⟩, .int .i64 0, .int .u64 0, .int .u64 0, .int .i64 0] 64) = wa ∧ wa.heap.size = w.heap.size + 1 ∧ wa.alloc (.cells #[.int .i64 0, .int .i64 0] 41) = wb ∧ Hid (EnS w wb g l v1 v2 v3 n mm) := by
 have lt := h.lt
 obtain ⟨wa, hwa, hba, hsa, hla, z0, z1, z2, z3, z4, z5⟩ := tbox13 w 0 0 0 0 0 ⟨#[]⟩
 have hfa : ∀ i, wa.frozen? ⟨w.heap.size, i, none⟩ = false := by intro i; rw [← hwa]; exact World.frozen?_alloc_at _ _ _ _ rfl
 obtain ⟨wb, hwb, hsb, hbb, hcb, hfb⟩ := box1 wa #[.int .i64 0, .int .i64 0] 41
 have kb := bcell' hbb
 have hB := hba.out.trans (hbb.mono (by omega))
 have hs := hsa.out
 have e0 := hcb 0
 have e1 := hcb 1
 rw [hs] at e0 e1 hfb
 simp at e0 e1
 exact ⟨wa, wb, hwa, hs, hwb, hide ⟨Grg.of hB, h.below hB lt, hN.grg (Grg.of hB), (hB.cell (p := ⟨0, 0, none⟩) (by show 0 < w.heap.size; omega)).trans hm, by omega, (kb.1 _ 0 hla).trans z0, (kb.1 _ 1 hla).trans z1, (kb.1 _ 2 hla).trans z2, (kb.1 _ 3 hla).trans z3, (kb.1 _ 4 hla).trans z4, (kb.1 _ 5 hla).trans z5, e0, e1, fun i => (kb.2 _ i hla).trans (hfa i), hfb⟩⟩
end Go.Proofs.YtbjokgnnklcbcaaGreatDoor

import Derived.Test.YtbjokgnnklcbcaaGreatDoorTpb17
import Derived.Test.YtbjokgnnklcbcaaGreatDoorTpb03
import Derived.Test.YtbjokgnnklcbcaaGreatDoorTpb04
import Derived.Test.YtbjokgnnklcbcaaGreatDoorShelf
set_option linter.all false
/-! Plain: a network that is read may be; Next is its own way back. -/
namespace Go.Proofs.YtbjokgnnklcbcaaGreatDoor
open Go.Lib
theorem sortP_mem {l : List Int} {x : Int} : x ∈ sortP l ↔ (1 ≤ x ∧ x ≤ 511) ∧ x ∈ l := by
 unfold sortP
 rw [List.mem_filter, List.mem_map, decide_eq_true_eq]
 constructor
 ·rintro ⟨⟨i, hi, rfl⟩, h⟩
  rw [List.mem_range] at hi
  exact ⟨by omega, h⟩
 ·rintro ⟨h1, h2⟩
  exact ⟨⟨(x - 1).toNat, by rw [List.mem_range]; omega, by omega⟩, h2⟩
theorem sortP_rises (l : List Int) : (sortP l).Pairwise (· < ·) := by
 unfold sortP
 refine List.Pairwise.filter _ ?_
 rw [List.pairwise_map]
 exact List.pairwise_lt_range.imp fun h => by omega
theorem rise_ext' : ∀ (a b : List Int), a.Pairwise (· < ·) → b.Pairwise (· < ·) → (∀ x, x ∈ a ↔ x ∈ b) → a = b
 | [], [], _, _, _ => rfl
 | [], y :: b, _, _, h => absurd ((h y).2 List.mem_cons_self) (by simp)
 | x :: a, [], _, _, h => absurd ((h x).1 List.mem_cons_self) (by simp)
 | x :: a, y :: b, ha, hb, h => by
  rw [List.pairwise_cons] at ha hb
  have hxy : x = y := by
   rcases List.mem_cons.1 ((h x).1 List.mem_cons_self) with e | e
   ·exact e
   ·rcases List.mem_cons.1 ((h y).2 List.mem_cons_self) with e2 | e2
    ·exact e2.symm
    ·have := hb.1 x e
     have := ha.1 y e2
     omega
  subst hxy
  rw [rise_ext' a b ha.2 hb.2 fun z => ?_]
  constructor
  ·intro hz
   rcases List.mem_cons.1 ((h z).1 (List.mem_cons_of_mem _ hz)) with e | e
   ·have := ha.1 z hz; omega
   ·exact e
  ·intro hz
   rcases List.mem_cons.1 ((h z).2 (List.mem_cons_of_mem _ hz)) with e | e
   ·have := hb.1 z hz; omega
   ·exact e
theorem sub_len : ∀ (a l : List Int), a.Nodup → (∀ x ∈ a, x ∈ l) → a.length ≤ l.length
 | [], _, _, _ => Nat.zero_le _
 | x :: a, l, hn, h => by
  have hx := h x List.mem_cons_self
  have hn' := List.nodup_cons.1 hn
  have := sub_len a (l.erase x) hn'.2 fun y hy => (List.mem_erase_of_ne (fun e : y = x => hn'.1 (e ▸ hy))).2 (h y (List.mem_cons_of_mem _ hy))
  rw [List.length_erase_of_mem hx] at this
  have := List.length_pos_of_mem hx
  simp only [List.length_cons]
  omega
theorem sortP_may {l : List Int} (h : l.length ≤ 8) : mayPortsB (sortP l) = true := by
 unfold mayPortsB
 rw [Bool.and_eq_true, decide_eq_true_eq, decide_eq_true_eq, ports_iff]
 have hp := sortP_rises l
 refine ⟨⟨fun x hx => (sortP_mem.1 hx).1, hp⟩, Nat.le_trans (sub_len _ l ?_ fun x hx => (sortP_mem.1 hx).2) h⟩
 rw [List.nodup_iff_pairwise_ne]
 exact hp.imp fun h => by omega
theorem portsT_len : ∀ (f : Nat) (acc : List Int) (l : List Tk) (ps : List Int) (l' : List Tk), acc.length ≤ 8 → portsT f acc l = .ok (ps, l') → ps.length ≤ 8
 | 0, acc, l, ps, l', h, he => by
  unfold portsT at he
  injection he with he
  injection he with he _
  rw [← he]; exact h
 | f + 1, acc, l, ps, l', h, he => by
  unfold portsT at he
  split at he
  ·injection he with he
   injection he with he _
   rw [← he]; exact h
  ·split at he
   ·cases he
   ·rename_i h8
    split at he
    ·cases he
    ·rename_i p l1 hp
     split at he
     ·cases he
     ·split at he
      ·cases he
      ·have := (portT_ok hp).1
       have h7 : acc.length < 8 := by
        rcases Nat.lt_or_ge acc.length 8 with h9 | h9
        ·exact h9
        ·exact absurd (fun g => g.elim (fun g => by omega) (fun g => g this)) h8
       exact portsT_len f _ _ ps l' (by simp; omega) he
theorem prtsT_may {l l' : List Tk} {ps : List Int} (h : prtsT l = .ok (ps, l')) : mayPortsB ps = true := by
 unfold prtsT at h
 split at h
 ·cases h
 ·split at h
  ·cases h
  ·rename_i hp
   split at h
   ·cases h
   ·have h' := (Prod.mk.inj (Except.ok.inj h)).1
    subst h'
    exact sortP_may (portsT_len _ _ _ _ _ (Nat.zero_le _) hp)
/-- The switches may be. -/
structure SwM (n : Net) : Prop where
 few : n.sw.length ≤ 8
 len : n.ports.length = n.sw.length
 ok : ∀ i, i < n.sw.length → swOk n i
theorem nameT_ok {l l' : List Tk} {s : List UInt8} (h : nameT l = .ok (s, l')) : nameB ⟨s.toArray⟩ = true ∧ s = (headT l).s ∧ l' = advT l := by
 unfold nameT at h
 split at h
 ·rename_i hn
  injection h with h
  injection h with h1 h2
  unfold nmT at hn
  rw [Bool.and_eq_true] at hn
  rw [← h1]
  exact ⟨hn.2, rfl, h2.symm⟩
 ·cases h
theorem swM_push {n : Net} (h : SwM n) {s : ByteArray} {ps : List Int} (h8 : n.sw.length < 8) (hs : nameB s = true) (hn : s ∉ n.sw) (hp : mayPortsB ps = true) (ls : List Lnk) : SwM ⟨n.sw ++ [s], n.ports ++ [ps], ls⟩ := by
 refine ⟨by simp; omega, by simp [h.len], fun i hi => ?_⟩
 simp only [List.length_append, List.length_cons, List.length_nil] at hi
 show nameB ((n.sw ++ [s]).getD i ByteArray.empty) = true ∧ (n.sw ++ [s]).getD i ByteArray.empty ∉ (n.sw ++ [s]).take i ∧ mayPortsB ((n.ports ++ [ps]).getD i []) = true
 rcases Nat.lt_or_ge i n.sw.length with h1 | h1
 ·obtain ⟨a, b, c⟩ := h.ok i h1
  rw [getD_eq h1] at a b
  rw [getD_eq (by rw [h.len]; exact h1)] at c
  rw [getD_eq (by simp; omega), getD_eq (by simp [h.len]; omega), List.getElem_append_left h1, List.getElem_append_left (by rw [h.len]; exact h1), List.take_append_of_le_length (by omega)]
  exact ⟨a, b, c⟩
 ·obtain rfl : i = n.sw.length := by omega
  rw [getD_eq (by simp), getD_eq (by simp [h.len]), List.getElem_append_right (by omega), List.getElem_append_right (by rw [h.len]; exact Nat.le_refl _), List.take_append_of_le_length (by omega)]
  simp only [Nat.sub_self, List.getElem_cons_zero, h.len]
  exact ⟨hs, by simpa using hn, hp⟩
theorem swT_may {n n' : Net} {l l' : List Tk} (h : SwM n) (hl : n.links = []) (he : swT n l = .ok (n', l')) : SwM n' ∧ n'.links = [] := by
 unfold swT at he
 split at he
 ·cases he
 ·rename_i h8
  split at he
  ·cases he
  ·rename_i s l1 hs
   split at he
   ·cases he
   ·rename_i hn
    split at he
    ·cases he
    ·rename_i ps l2 hp
     injection he with he
     injection he with he _
     rw [← he]
     exact ⟨swM_push h (by omega) (nameT_ok hs).1 hn (prtsT_may hp) _, hl⟩
theorem swsT_may : ∀ (f : Nat) (n n' : Net) (l l' : List Tk), SwM n → n.links = [] → swsT f n l = .ok (n', l') → SwM n' ∧ n'.links = []
 | 0, n, n', l, l', h, hl, he => by
  unfold swsT at he
  injection he with he
  injection he with he _
  rw [← he]; exact ⟨h, hl⟩
 | f + 1, n, n', l, l', h, hl, he => by
  unfold swsT at he
  split at he
  ·split at he
   ·cases he
   ·rename_i hs
    obtain ⟨a, b⟩ := swT_may h hl hs
    exact swsT_may f _ n' _ l' a b he
  ·injection he with he
   injection he with he _
   rw [← he]; exact ⟨h, hl⟩
theorem next_two {n : Net} {e : Int × Int} (ht : thereB n e = true) : (nextB n e).2.2 = (nextL n.links e).isSome := by
 unfold nextB
 rw [if_pos ht]
 cases nextL n.links e <;> rfl
theorem endT_ok {n : Net} {l l' : List Tk} {pl : Nat} {e : Int × Int} (h : endT n l = .ok (pl, e, l')) : thereB n e = true ∧ e ∉ endsOf n.links := by
 unfold endT at h
 split at h
 ·cases h
 ·split at h
  ·split at h
   ·cases h
   ·split at h
    ·cases h
    ·split at h
     ·cases h
     ·rename_i ht
      split at h
      ·cases h
      ·rename_i hk
       injection h with h
       injection h with _ h
       injection h with h _
       rw [← h]
       have ht' := (Bool.not_eq_false _).mp ht
       refine ⟨ht', fun hm => hk ?_⟩
       rw [next_two ht', nextL_some]
       exact mem_ends.1 hm
  ·cases h
/-- The links may be. -/
structure LnM (n : Net) : Prop where
 there : ∀ e ∈ endsOf n.links, thereB n e = true
 nodup : (endsOf n.links).Nodup
theorem lnT_may {n n' : Net} {l l' : List Tk} (h : SwM n) (hl : LnM n) (he : lnT n l = .ok (n', l')) : SwM n' ∧ LnM n' := by
 unfold lnT at he
 split at he
 ·cases he
 ·rename_i a l1 ha
  split at he
  ·cases he
  ·rename_i pl b l2 hb
   split at he
   ·cases he
   ·rename_i hab
    split at he
    ·cases he
    ·injection he with he
     injection he with he _
     rw [← he]
     obtain ⟨a1, a2⟩ := endT_ok ha
     obtain ⟨b1, b2⟩ := endT_ok hb
     have he2 : endsOf (n.links ++ [(a, b)]) = endsOf n.links ++ [a, b] := by unfold endsOf; rw [List.flatMap_append]; simp
     refine ⟨⟨h.few, h.len, h.ok⟩, fun e hm => ?_, ?_⟩
     ·simp only [he2] at hm
      rcases List.mem_append.1 hm with hm | hm
      ·exact hl.there e hm
      ·rcases List.mem_cons.1 hm with rfl | hm
       ·exact a1
       ·rw [List.mem_singleton] at hm; subst hm; exact b1
     ·simp only [he2]
      rw [List.nodup_append]
      refine ⟨hl.nodup, by simp [hab], fun x hx y hy => ?_⟩
      rcases List.mem_cons.1 hy with rfl | hy
      ·exact fun e => a2 (e ▸ hx)
      ·rw [List.mem_singleton] at hy; subst hy; exact fun e => b2 (e ▸ hx)
theorem lnsT_may : ∀ (f : Nat) (n n' : Net) (l l' : List Tk), SwM n → LnM n → lnsT f n l = .ok (n', l') → SwM n' ∧ LnM n'
 | 0, n, n', l, l', h, hl, he => by
  unfold lnsT at he
  injection he with he
  injection he with he _
  rw [← he]; exact ⟨h, hl⟩
 | f + 1, n, n', l, l', h, hl, he => by
  unfold lnsT at he
  split at he
  ·split at he
   ·cases he
   ·rename_i hs
    obtain ⟨a, b⟩ := lnT_may h hl hs
    exact lnsT_may f _ n' _ l' a b he
  ·injection he with he
   injection he with he _
   rw [← he]; exact ⟨h, hl⟩
theorem may_of {n : Net} (h : SwM n) (hl : LnM n) : mayB n = true := mayB_iff.2 ⟨⟨h.few, h.len⟩, h.ok, hl.there, hl.nodup⟩
/-- What is read may be. -/
theorem read_may {l : List UInt8} {n : Net} (h : readT l = .ok n) : mayB n = true := by
 unfold readT at h
 split at h
 ·cases h
 ·unfold allT at h
  split at h
  ·cases h
  ·rename_i hs
   split at h
   ·cases h
   ·rename_i hl
    split at h
    ·injection h with h
     rw [← h]
     obtain ⟨a, b⟩ := swsT_may _ _ _ _ _ ⟨Nat.zero_le _, rfl, fun i hi => by simp [emptyN] at hi⟩ rfl hs
     obtain ⟨c, d⟩ := lnsT_may _ _ _ _ _ a ⟨by rw [b]; intro e he; simp [endsOf] at he, by rw [b]; exact List.nodup_nil⟩ hl
     exact may_of c d
    ·cases h
/-- Next is its own way back. -/
theorem next_back {n : Net} (h : mayB n = true) {i : Nat} {p : Int} (hi : i < n.sw.length) (hp : p ∈ n.ports.getD i []) :
  (nextB n ((i : Int), p)).2.1 = true ∧ ((nextB n ((i : Int), p)).2.2 = true → (nextB n (nextB n ((i : Int), p)).1).1 = ((i : Int), p) ∧ (nextB n (nextB n ((i : Int), p)).1).2.2 = true ∧ (nextB n ((i : Int), p)).1 ≠ ((i : Int), p)) := by
 obtain ⟨⟨h1, h2⟩, h3, h4, h5⟩ := mayB_iff.1 h
 have ht : thereB n ((i : Int), p) = true := by
  unfold thereB
  rw [decide_eq_true_eq]
  exact ⟨by simp, by simp; omega, by simpa using hp⟩
 generalize hE : ((i : Int), p) = e at ht ⊢
 have hE1 : nextB n e = nextT (nextL n.links e) := by unfold nextB; rw [if_pos ht]
 rw [hE1]
 cases hn : nextL n.links e with
 | none => exact ⟨rfl, fun g => by cases g⟩
 | some tw =>
  refine ⟨rfl, fun _ => ?_⟩
  show (nextB n tw).1 = e ∧ (nextB n tw).2.2 = true ∧ tw ≠ e
  -- the link
  obtain ⟨j, hj, hcase⟩ : ∃ (j : Nat) (hj : j < n.links.length), (n.links[j].1 = e ∧ n.links[j].2 = tw) ∨ (n.links[j].2 = e ∧ n.links[j].1 = tw) := by
   have key : ∀ (l : List Lnk), nextL l e = some tw → ∃ (j : Nat) (hj : j < l.length), (l[j].1 = e ∧ l[j].2 = tw) ∨ (l[j].2 = e ∧ l[j].1 = tw) := by
    intro l
    induction l with
    | nil => intro g; cases g
    | cons x l ih =>
     intro g
     unfold nextL at g
     split at g
     ·injection g with g
      exact ⟨0, by simp, .inl ⟨by assumption, g⟩⟩
     ·split at g
      ·injection g with g
       exact ⟨0, by simp, .inr ⟨by assumption, g⟩⟩
      ·obtain ⟨j, hj, hc⟩ := ih g
       exact ⟨j + 1, by simp; omega, by simpa using hc⟩
   exact key n.links hn
  have hne : tw ≠ e := by
   intro e1
   obtain ⟨x, y⟩ := ends_at hj
   obtain ⟨lx, gx⟩ := List.getElem?_eq_some_iff.1 x
   obtain ⟨ly, gy⟩ := List.getElem?_eq_some_iff.1 y
   have h6 := List.nodup_iff_pairwise_ne.1 h5
   rw [List.pairwise_iff_getElem] at h6
   refine h6 (2 * j) (2 * j + 1) lx ly (by omega) ?_
   rw [gx, gy]
   rcases hcase with ⟨a, b⟩ | ⟨a, b⟩
   ·rw [a, b, e1]
   ·rw [a, b, e1]
  have hat : n.links[j].1 = tw ∨ n.links[j].2 = tw := by
   rcases hcase with ⟨a, b⟩ | ⟨a, b⟩
   ·exact .inr b
   ·exact .inl b
  have ht2 : thereB n tw = true := h4 tw (mem_ends.2 ⟨n.links[j], List.getElem_mem hj, hat⟩)
  have hoff : offL (n.links.take j) tw := by
   intro x hx
   obtain ⟨k, hk, rfl⟩ := List.mem_take_iff_getElem.1 hx
   refine ⟨fun g => ?_, fun g => ?_⟩
   ·have := one_link h5 (i := k) (j := j) (by omega) hj (.inl g) hat; omega
   ·have := one_link h5 (i := k) (j := j) (by omega) hj (.inr g) hat; omega
  have hE2 : nextB n tw = nextT (nextL n.links tw) := by unfold nextB; rw [if_pos ht2]
  rw [hE2, nextL_at hj hoff]
  rcases hcase with ⟨a, b⟩ | ⟨a, b⟩
  ·rw [if_neg (by rw [a]; exact fun g => hne g.symm), if_pos b, a]
   exact ⟨rfl, rfl, hne⟩
  ·rw [if_pos b, a]
   exact ⟨rfl, rfl, hne⟩
end Go.Proofs.YtbjokgnnklcbcaaGreatDoor
namespace Go.Proofs.YtbjokgnnklcbcaaGreatDoor
open Go.RowKit
@[reducible] def netV (n : Net) (A1 A2 A3 : Option Addr) (c1 c2 c3 : Nat) : Value := .agg #[.slice A1 n.sw.length c1, .slice A2 n.ports.length c2, .slice A3 n.links.length c3]
def NetS (w : World) (B : Nat) (A1 A2 A3 : Option Addr) (n : Net) : Prop := Sl 1 rStr w B A1 n.sw ∧ Sl 1 (rSl 1 rInt) w B A2 n.ports ∧ Sl 4 rLink w B A3 n.links
theorem NetS.keep {w w' : World} {B : Nat} {A1 A2 A3 : Option Addr} {n : Net} (h : NetS w B A1 A2 A3 n) (hk : ∀ p : Addr, p.block < B → w'.cell? p = w.cell? p) : NetS w' B A1 A2 A3 n :=
 ⟨h.1.keep sta_str hk, h.2.1.keep (sta_sl sta_int) hk, h.2.2.keep sta_link hk⟩
theorem NetS.more {w : World} {B B' : Nat} {A1 A2 A3 : Option Addr} {n : Net} (h : NetS w B A1 A2 A3 n) (hB : B ≤ B') : NetS w B' A1 A2 A3 n :=
 ⟨h.1.more sta_str hB, h.2.1.more (sta_sl sta_int) hB, h.2.2.more sta_link hB⟩
theorem NetS.below {w w' : World} {B : Nat} {A1 A2 A3 : Option Addr} {n : Net} (h : NetS w B A1 A2 A3 n) (hb : Below B w w') : NetS w' B A1 A2 A3 n := h.keep fun _ hp => hb.cell hp
theorem NetS.alloc {w : World} {B : Nat} {A1 A2 A3 : Option Addr} {n : Net} (h : NetS w B A1 A2 A3 n) (hB : B ≤ w.heap.size) (o : Obj) : NetS (w.alloc o) B A1 A2 A3 n := h.keep fun p hp => World.cell?_alloc_lt w o p (by omega)
set_option maxHeartbeats 400000 in
theorem great_any (n : Net) (A1 A2 A3 : Option Addr) (c1 c2 c3 : Nat) (w : World) (h : NetS w w.heap.size A1 A2 A3 n) :
  Calls Tryz.prog 9 #[netV n A1 A2 A3 c1 c2 c3] w fun e w' => e = .returned (.bool (greatB n)) ∧ Below w.heap.size w w' := by
 obtain ⟨h1, h2, h3⟩ := h
 have l1 := h1.len
 have l2 := h2.len
 go_enter Tryz.func9, Tryz.ntmps9
 go_wp2
 go_loop [3] (fun i => ∃ k : Nat, k ≤ n.sw.length ∧ i = .int .i64 k ∧ (n.sw.take k).any (fun s => decide (40 < s.size)) = false) (fun i => n.sw.length - (intOf i).toNat)
 case atStart => exact ⟨0, Nat.zero_le _, rfl, by simp⟩
 case round =>
  obtain ⟨k, hk, rfl, hc⟩ := hrel
  by_cases hlt : k < n.sw.length
  ·obtain ⟨b, o, rfl, hb, hcell, hz⟩ := h1.str hlt
   clear h1
   by_cases he : 40 < n.sw[k].size
   ·have hs := hide (any_of_getElem (p := fun s => decide (40 < s.size)) hlt (by simpa using he))
    go_wp2
    go_ret
    exact ⟨by simp [greatB, hs.out], (Below.refl _ _).alloc (Nat.le_refl _) _⟩
   ·have hs := hide (any_take_succ (p := fun s => decide (40 < s.size)) hlt hc (by simpa using he))
    go_wp2
    go_round
    case rel => exact ⟨k + 1, by omega, by go_num, hs.out⟩
    case measure => simp [intOf]; omega
  ·have hs := hide (any_of_take hk hlt hc)
   clear hc h1
   go_wp2
   go_loop [4] (fun i => ∃ k : Nat, k ≤ n.ports.length ∧ i = .int .i64 k ∧ (n.ports.take k).any (fun s => decide (30 < s.length)) = false) (fun i => n.ports.length - (intOf i).toNat)
   case atStart => exact ⟨0, Nat.zero_le _, rfl, by simp⟩
   case round =>
    obtain ⟨k', hk', rfl, hc⟩ := hrel
    by_cases hlt' : k' < n.ports.length
    ·obtain ⟨b, o, A', cap', rfl, hb, hcell, -⟩ := h2.ints hlt'
     clear h2
     by_cases he : 30 < n.ports[k'].length
     ·have hs' := hide (any_of_getElem (p := fun s => decide (30 < s.length)) hlt' (by simpa using he))
      go_wp2
      go_ret
      exact ⟨by simp [greatB, hs'.out], (Below.refl _ _).alloc (Nat.le_refl _) _⟩
     ·have hs' := hide (any_take_succ (p := fun s => decide (30 < s.length)) hlt' hc (by simpa using he))
      go_wp2
      go_round
      case rel => exact ⟨k' + 1, by omega, by go_num, hs'.out⟩
      case measure => simp [intOf]; omega
    ·have hs' := hide (any_of_take hk' hlt' hc)
     clear hc
     go_wp2
     all_goals
      go_ret
      exact ⟨ret_bool (by simp [greatB, hs.out, hs'.out]; try omega), (Below.refl _ _).alloc (Nat.le_refl _) _⟩
end Go.Proofs.YtbjokgnnklcbcaaGreatDoor
namespace Go.Proofs.YtbjokgnnklcbcaaGreatDoor
open Go.RowKit
theorem thereB_in {n : Net} {k : Nat} {p : Int} (hk : k < n.ports.length) : thereB n ((k : Int), p) = decide (p ∈ n.ports[k]) := by
 simp [thereB, hk]
theorem thereB_lo {n : Net} {s p : Int} (hk : ¬ 0 ≤ s) : thereB n (s, p) = false := by
 simp only [thereB, decide_eq_false_iff_not]; omega
theorem thereB_hi {n : Net} {s p : Int} (hk : ¬ s < (n.ports.length : Int)) : thereB n (s, p) = false := by
 simp only [thereB, decide_eq_false_iff_not]; omega
end Go.Proofs.YtbjokgnnklcbcaaGreatDoor
namespace Go.Proofs.YtbjokgnnklcbcaaGreatDoor
open Go.RowKit
set_option maxHeartbeats 400000 in
theorem sindex_any (A : Option Addr) (cap : Nat) (xs : List Int) (n : Int) (w : World) (h : Sl 1 rInt w w.heap.size A xs) :
  Calls Tryz.prog 84 #[.slice A xs.length cap, .int .i64 n] w fun e w' => e = .returned (.int .i64 (findI xs n)) ∧ w = w' := by
 have hl := h.len
 go_enter Tryz.func84, Tryz.ntmps84
 go_wp2
 go_loop [8] (fun i => ∃ k : Nat, k ≤ xs.length ∧ i = .int .i64 k ∧ n ∉ xs.take k) (fun i => xs.length - (intOf i).toNat)
 case atStart => exact ⟨0, Nat.zero_le _, rfl, by simp⟩
 case round =>
  obtain ⟨k, hk, rfl, hc⟩ := hrel
  by_cases hlt : k < xs.length
  ·obtain ⟨b, o, rfl, hb, hcell⟩ := h.int hlt
   clear h
   by_cases he : xs[k] = n
   ·have ht : (n == xs[k]) = true := by simp [he]
    have hv := hide (findI_at hlt hc he)
    clear he
    go_wp2
    go_ret
    exact ⟨ret_int hv.out.symm, rfl⟩
   ·have ht : (n == xs[k]) = false := by simp; exact fun e => he e.symm
    have hv := hide (notMem_take_snoc hlt hc he)
    clear he
    go_wp2
    go_round
    case rel => exact ⟨k + 1, by omega, by go_num, hv.out⟩
    case measure => simp [intOf]; omega
  ·have hv := hide (findI_no (notMem_of_take hk hlt hc))
   go_wp2
   go_ret
   exact ⟨ret_int hv.out.symm, rfl⟩
end Go.Proofs.YtbjokgnnklcbcaaGreatDoor
namespace Go.Proofs.YtbjokgnnklcbcaaGreatDoor
open Go.RowKit
theorem findI_nonneg {α : Type} [DecidableEq α] (l : List α) (a : α) : decide (0 ≤ findI l a) = decide (a ∈ l) := by
 unfold findI
 by_cases h : a ∈ l <;> simp [h]
set_option maxHeartbeats 400000 in
theorem scontains_any (A : Option Addr) (cap : Nat) (xs : List Int) (n : Int) (w : World) (h : Sl 1 rInt w w.heap.size A xs) :
  Calls Tryz.prog 65 #[.slice A xs.length cap, .int .i64 n] w fun e w' => e = .returned (.bool (decide (n ∈ xs))) ∧ w = w' := by
 have hv := hide (findI_nonneg xs n)
 go_enter Tryz.func65, Tryz.ntmps65
 go_wp2_with (go_at_call 84; refine (sindex_any _ _ _ _ _ h).mono ?_; rintro e w' ⟨rfl, rfl⟩)
 go_ret
 exact ⟨ret_b hv.out, rfl⟩
set_option maxHeartbeats 400000 in
theorem tfind_any (n : Net) (A1 A2 A3 : Option Addr) (c1 c2 c3 : Nat) (s : ByteArray) (w : World) (h : NetS w w.heap.size A1 A2 A3 n) :
  Calls Tryz.prog 30 #[netV n A1 A2 A3 c1 c2 c3, .string s] w fun e w' => e = .returned (.int .i64 (findI n.sw s)) ∧ Below w.heap.size w w' := by
 obtain ⟨h1, -, -⟩ := h
 go_enter Tryz.func30, Tryz.ntmps30
 go_wp2_with (go_at_call 64; refine (sindexS_any _ _ _ _ _ ((h1.alloc sta_str (Nat.le_refl _) _).more sta_str (by simp))).mono ?_; rintro e w' ⟨rfl, rfl⟩)
 go_ret
 exact ⟨rfl, (Below.refl _ _).alloc (Nat.le_refl _) _⟩
set_option maxHeartbeats 400000 in
theorem tthere_any (n : Net) (A1 A2 A3 : Option Addr) (c1 c2 c3 : Nat) (s p : Int) (w : World) (h : NetS w w.heap.size A1 A2 A3 n) :
  Calls Tryz.prog 32 #[netV n A1 A2 A3 c1 c2 c3, .agg #[.int .i64 s, .int .i64 p]] w fun e w' => e = .returned (.bool (thereB n (s, p))) ∧ Below w.heap.size w w' := by
 obtain ⟨-, h2, -⟩ := h
 have l2 := h2.len
 go_enter Tryz.func32, Tryz.ntmps32
 by_cases h0 : 0 ≤ s
 ·by_cases hlt : s < (n.ports.length : Int)
  ·obtain ⟨k, rfl⟩ := Int.eq_ofNat_of_zero_le h0
   have hk : k < n.ports.length := by omega
   obtain ⟨b, o, A', cap', rfl, hb, hcell, hin⟩ := h2.ints hk
   have hv := hide (thereB_in (p := p) hk)
   clear h2
   go_wp2_with fail
   go_quiet ((go_at_call 65; exact quiet_same (scontains_any _ _ _ _ _ (((hin.alloc sta_int (Nat.le_refl _) _).alloc sta_int (by simp) _ |>.drewN sta_int _).more sta_int (by simp; omega)))))
   go_wp2
   go_ret
   exact ⟨ret_b hv.out.symm, below_drewN (((Below.refl _ _).alloc (Nat.le_refl _) _).alloc (by simp) _) _⟩
  ·have hd : decide (s < (n.ports.length : Int)) = false := by simpa using hlt
   have hv := hide (thereB_hi (p := p) hlt)
   go_wp2_with fail
   go_quiet (fail)
   go_wp2
   go_ret
   exact ⟨ret_b hv.out.symm, below_drewN (((Below.refl _ _).alloc (Nat.le_refl _) _).alloc (by simp) _) _⟩
 ·have hd : decide (0 ≤ s) = false := by simpa using h0
  have hv := hide (thereB_lo (n := n) (p := p) h0)
  go_wp2_with fail
  go_quiet (fail)
  go_wp2
  go_ret
  exact ⟨ret_b hv.out.symm, below_drewN (((Below.refl _ _).alloc (Nat.le_refl _) _).alloc (by simp) _) _⟩
set_option maxHeartbeats 400000 in
theorem mayPorts_any (A : Option Addr) (cap : Nat) (xs : List Int) (w : World) (h : Sl 1 rInt w w.heap.size A xs) :
  Calls Tryz.prog 31 #[.slice A xs.length cap] w fun e w' => e = .returned (.bool (mayPortsB xs)) ∧ w = w' := by
 have hl := h.len
 go_enter Tryz.func31, Tryz.ntmps31
 go_wp2
 go_loop [7] (fun i => ∃ k : Nat, k ≤ xs.length ∧ i = .int .i64 k ∧ portsTo xs k) (fun i => xs.length - (intOf i).toNat)
 case atStart => exact ⟨0, Nat.zero_le _, rfl, fun i hi => by omega⟩
 case round =>
  obtain ⟨k, hk, rfl, hc⟩ := hrel
  by_cases hlt : k < xs.length
  ·obtain ⟨b, o, rfl, hb, hcell⟩ := h.int hlt
   cases k with
   | zero =>
    clear h
    simp only [Nat.add_zero] at hcell
    by_cases hp : portAt xs 0
    ·have hv := hide (portsTo_succ hc hp)
     simp [portAt, List.getD_eq_getElem?_getD, hlt] at hp
     clear hc
     obtain ⟨p1, p2⟩ := hp
     go_wp2
     go_round
     case rel => exact ⟨1, by omega, by go_num, hv.out⟩
     case measure => simp [intOf]; omega
    ·have hv := hide (mayPorts_no hlt hp)
     simp [portAt, List.getD_eq_getElem?_getD, hlt] at hp
     go_wp2
     all_goals
      go_ret
      exact ⟨ret_b hv.out.symm, rfl⟩
   | succ j =>
    obtain ⟨b', o', he, -, hcell'⟩ := h.int (i := j) (by omega)
    cases he
    clear h
    by_cases hp : portAt xs (j + 1)
    ·have hv := hide (portsTo_succ hc hp)
     simp [portAt, List.getD_eq_getElem?_getD, hlt, show j < xs.length by omega] at hp
     clear hc
     obtain ⟨p1, p2, p3⟩ := hp
     go_wp2
     go_round
     case rel => exact ⟨j + 2, by omega, by go_num, hv.out⟩
     case measure => simp [intOf]; omega
    ·have hv := hide (mayPorts_no hlt hp)
     simp [portAt, List.getD_eq_getElem?_getD, hlt, show j < xs.length by omega] at hp
     go_wp2
     all_goals
      go_ret
      exact ⟨ret_b hv.out.symm, rfl⟩
  ·go_wp2
   go_ret
   refine ⟨ret_bool ?_, rfl⟩
   have hc' : portsTo xs xs.length := by rwa [show k = xs.length by omega] at hc
   simp [mayPortsB, hc']; omega
end Go.Proofs.YtbjokgnnklcbcaaGreatDoor

import Derived.Test.YtbjokgnnklcbcaaGreatDoorTpb25
import Derived.Test.YtbjokgnnklcbcaaGreatDoorTpb02
set_option linter.all false
/-! Layer 13: the network grows. -/
namespace Go.Proofs.YtbjokgnnklcbcaaGreatDoor
open Go.RowKit
theorem str_infoN : (Tryz.prog.info? 9).map (fun i => (i.zero, i.size, i.bytes)) = some (some (.string ⟨#[]⟩), 1, 16) := by kernel_rfl
theorem row_infoN : (Tryz.prog.info? 39).map (fun i => (i.zero, i.size, i.bytes)) = some (some (.slice none 0 0), 1, 24) := by kernel_rfl
theorem link_infoN : (Tryz.prog.info? 72).map (fun i => (i.zero, i.size, i.bytes)) = some (some (.agg #[.int .i64 0, .int .i64 0, .int .i64 0, .int .i64 0]), 4, 32) := by kernel_rfl
theorem own_kept {w w1 : World} {base base' size size' n n' : Nat} {e e' : TypeId} {v v' : Value} {xs xs' : List Value} (h : w.ownsRow base e size v n xs) (h' : w.ownsRow base' e' size' v' n' xs') (hne : e' ≠ e) (hg : w.grownBy w1 v'.ownBlock) : w1.ownsRow base e size v n xs :=
 World.ownsRow.kept h hg (own_ne_own h' h hne)
theorem own_formN {w : World} {base size n : Nat} {e : TypeId} {v : Value} {xs : List Value} (h : w.ownsRow base e size v n xs) : ∃ A cap, v = .slice A n cap := by
 rcases h.2 with ⟨rfl, hz⟩ | ⟨g, cap, cur, rfl, _⟩
 ·exact ⟨none, 0, by rw [hz]⟩
 ·exact ⟨_, _, rfl⟩
theorem own_monoN {w : World} {base base' size n : Nat} {e : TypeId} {v : Value} {xs : List Value} (h : w.ownsRow base e size v n xs) (hb : base' ≤ base) : w.ownsRow base' e size v n xs := by
 refine ⟨h.1, ?_⟩
 rcases h.2 with h2 | ⟨b, cap, cur, h0, hbb, r⟩
 ·exact .inl h2
 ·exact .inr ⟨b, cap, cur, h0, Nat.le_trans hb hbb, r⟩
theorem heap_alloc_old {w : World} {k : Nat} {o : Obj} (h : w.heap[k]? = some o) (o' : Obj) : (w.alloc o').heap[k]? = some o := by
 have hlt : k < w.heap.size := (Array.getElem?_eq_some_iff.1 h).1
 exact ((Below.refl w.heap.size w).alloc (Nat.le_refl _) o').block k hlt |>.trans h
/-- A box of another kind is kept by what makes a row grow. -/
theorem own_box {w w1 : World} {base size n k : Nat} {e t : TypeId} {v : Value} {xs : List Value} {cs : Array Value} {fr : Nat × Nat} (hd : w.ownsRow base e size v n xs) (hg : w.grownBy w1 v.ownBlock) (hk : w.heap[k]? = some (.cells cs t fr)) (hne : t ≠ e) : w1.heap[k]? = some (.cells cs t fr) := by
 have hlt : k < w.heap.size := (Array.getElem?_eq_some_iff.1 hk).1
 rw [hg.block k hlt ?_, hk]
 intro hv
 rcases hd.2 with ⟨rfl, -⟩ | ⟨b, cap, cur, rfl, hbb, hh, r⟩
 ·cases hv
 ·have hb : b = k := by simpa [Value.ownBlock, eq_comm] using hv
  subst hb
  rw [hk] at hh
  injection hh with hh
  injection hh with h1 h2
  exact hne h2
theorem NetN.drew {w : World} {g : Nat} {v1 v2 v3 : Value} {n : Net} (h : NetN w g v1 v2 v3 n) : NetN w.drew g v1 v2 v3 n := h.grg (Grg.refl _ _).drew
theorem append_sw13 {W : World} {g : Nat} {v1 v2 v3 : Value} {n : Net} (s : ByteArray) (hN : NetN W g v1 v2 v3 n) (hs : s.size ≤ maxLen) (hgW : g + 1 ≤ W.heap.size) (hz : n.sw.length ≤ 1000) :
  ∃ v' w', (AppG #[23, 23] 23 #[v1, .slice (some ⟨W.heap.size, 0, none⟩) 1 1]).run Tryz.prog (W.alloc (.cells #[.string s] 9)) = .ok v' w' ∧ NetN w' g v' v2 v3 ⟨n.sw ++ [s], n.ports, n.links⟩ ∧ Below (g + 1) W w' ∧ (∀ (u : Value) (p : List Int), IpS W (g + 1) u p → IpS w' (g + 1) u p) ∧ ∀ (k : Nat) (cs : Array Value) (t : TypeId) (fr : Nat × Nat), W.heap[k]? = some (.cells cs t fr) → t ≠ 9 → w'.heap[k]? = some (.cells cs t fr) := by
 obtain ⟨ii, hii, hzi0, hzi1, hzi2⟩ := info_parts str_infoN
 have hd := World.ownsRow.alloc hN.own0 (.cells #[.string s] 9)
 obtain ⟨v', w', hrun, h2, h3, _, _⟩ := run_append_own_at (P := Tryz.prog) (W.alloc (.cells #[.string s] 9)) (g + 1) 23 23 9 ii _ 1 16 Tryz.underlying23 hii hzi0 hzi1 hzi2 rfl (by omega) v1 n.sw.length _ hd ⟨W.heap.size, 0, none⟩ 1 1 [.string s] rfl (World.news_of_block (cs := #[.string s]) (t := 9) (fr := (0, 0)) (heap_alloc_new W _)) (by simp [Value.oneCell']) (by simp [maxLen]; omega) (by omega) (by simp; omega)
 refine ⟨v', w', hrun, ⟨fun x hx => ?_, by simpa using h2, own_kept (World.ownsRow.alloc hN.own2 _) hd (by decide) h3, ?_⟩, ((Below.refl _ _).alloc hgW _).grown h3 (by simp; omega) (fun k e => (hN.own0.lt k e).1), fun u p hu => own_kept (World.ownsRow.alloc hu _) hd (by decide) h3, fun k cs t fr hk hne => own_box hd h3 (heap_alloc_old hk _) hne⟩
 ·rcases List.mem_append.1 hx with hx | hx
  ·exact hN.size x hx
  ·rw [List.mem_singleton] at hx; subst hx; exact hs
 ·obtain ⟨vs, h4, h5, h6⟩ := hN.own1
  exact ⟨vs, h4, own_kept (World.ownsRow.alloc h5 _) hd (by decide) h3, fun i v p hv hp => own_kept (World.ownsRow.alloc (h6 i v p hv hp) _) hd (by decide) h3⟩
theorem append_ln13 {W : World} {g : Nat} {v1 v2 v3 : Value} {n : Net} (a b : Int × Int) (hN : NetN W g v1 v2 v3 n) (hgW : g + 1 ≤ W.heap.size) (hz : n.links.length ≤ 100000) :
  ∃ v' w', (AppG #[25, 25] 25 #[v3, .slice (some ⟨W.heap.size, 0, none⟩) 1 1]).run Tryz.prog (W.alloc (.cells #[.int .i64 a.1, .int .i64 a.2, .int .i64 b.1, .int .i64 b.2] 72)) = .ok v' w' ∧ NetN w' g v1 v2 v' ⟨n.sw, n.ports, n.links ++ [(a, b)]⟩ ∧ Below (g + 1) W w' := by
 obtain ⟨ii, hii, hzi0, hzi1, hzi2⟩ := info_parts link_infoN
 have hd := World.ownsRow.alloc hN.own2 (.cells #[.int .i64 a.1, .int .i64 a.2, .int .i64 b.1, .int .i64 b.2] 72)
 obtain ⟨v', w', hrun, h2, h3, _, _⟩ := run_append_own_at (P := Tryz.prog) (W.alloc (.cells #[.int .i64 a.1, .int .i64 a.2, .int .i64 b.1, .int .i64 b.2] 72)) (g + 1) 25 25 72 ii _ 4 32 Tryz.underlying25 hii hzi0 hzi1 hzi2 rfl (by omega) v3 n.links.length _ hd ⟨W.heap.size, 0, none⟩ 1 1 [.int .i64 a.1, .int .i64 a.2, .int .i64 b.1, .int .i64 b.2] rfl (World.news_of_block (cs := #[.int .i64 a.1, .int .i64 a.2, .int .i64 b.1, .int .i64 b.2]) (t := 72) (fr := (0, 0)) (heap_alloc_new W _)) (by simp [Value.oneCell']) (by simp [maxLen]; omega) (by omega) (by simp; omega)
 refine ⟨v', w', hrun, ⟨hN.size, own_kept (World.ownsRow.alloc hN.own0 _) hd (by decide) h3, by simpa using h2, ?_⟩, ((Below.refl _ _).alloc hgW _).grown h3 (by simp; omega) (fun k e => (hN.own2.lt k e).1)⟩
 obtain ⟨vs, h4, h5, h6⟩ := hN.own1
 exact ⟨vs, h4, own_kept (World.ownsRow.alloc h5 _) hd (by decide) h3, fun i v p hv hp => own_kept (World.ownsRow.alloc (h6 i v p hv hp) _) hd (by decide) h3⟩
theorem append_pt13 {W : World} {g : Nat} {v1 v2 v3 u : Value} {n : Net} {p : List Int} (hN : NetN W g v1 v2 v3 n) (hu : IpS W (g + 1) u p) (hgW : g + 1 ≤ W.heap.size) (hz : n.ports.length ≤ 1000) :
  ∃ v' w', (AppG #[24, 24] 24 #[v2, .slice (some ⟨W.heap.size, 0, none⟩) 1 1]).run Tryz.prog (W.alloc (.cells #[u] 39)) = .ok v' w' ∧ NetN w' g v1 v' v3 ⟨n.sw, n.ports ++ [p], n.links⟩ ∧ Below (g + 1) W w' ∧ ∀ (k : Nat) (cs : Array Value) (t : TypeId) (fr : Nat × Nat), W.heap[k]? = some (.cells cs t fr) → t ≠ 39 → w'.heap[k]? = some (.cells cs t fr) := by
 obtain ⟨ii, hii, hzi0, hzi1, hzi2⟩ := info_parts row_infoN
 obtain ⟨vs, h4, h5, h6⟩ := hN.own1
 have hd := World.ownsRow.alloc h5 (.cells #[u] 39)
 obtain ⟨A, cap, hform⟩ := hu.form
 obtain ⟨v', w', hrun, h2, h3, _, _⟩ := run_append_own_at (P := Tryz.prog) (W.alloc (.cells #[u] 39)) (g + 1) 24 24 39 ii _ 1 24 Tryz.underlying24 hii hzi0 hzi1 hzi2 rfl (by omega) v2 n.ports.length _ hd ⟨W.heap.size, 0, none⟩ 1 1 [u] rfl (World.news_of_block (cs := #[u]) (t := 39) (fr := (0, 0)) (heap_alloc_new W _)) (by intro x hx; rw [List.mem_singleton] at hx; subst hx; rw [hform]; rfl) (by simp [maxLen]; omega) (by omega) (by simp; omega)
 refine ⟨v', w', hrun, ⟨hN.size, own_kept (World.ownsRow.alloc hN.own0 _) hd (by decide) h3, own_kept (World.ownsRow.alloc hN.own2 _) hd (by decide) h3, vs ++ [u], by simp [h4], by simpa using h2, fun i v q hv hq => ?_⟩, ((Below.refl _ _).alloc hgW _).grown h3 (by simp; omega) (fun k e => (h5.lt k e).1), fun k cs t fr hk hne => own_box hd h3 (heap_alloc_old hk _) hne⟩
 by_cases hi : i < n.ports.length
 ·rw [List.getElem?_append_left (by omega)] at hv hq
  exact own_kept (World.ownsRow.alloc (h6 i v q hv hq) _) hd (by decide) h3
 ·have hik : i = n.ports.length := by
   have := (List.getElem?_eq_some_iff.1 hq).1
   simp at this; omega
  subst hik
  rw [List.getElem?_append_right (by omega)] at hv hq
  simp [h4] at hv hq
  subst hv hq
  exact own_kept (World.ownsRow.alloc hu _) hd (by decide) h3
end Go.Proofs.YtbjokgnnklcbcaaGreatDoor
/-! Layer 13: the readers' blocks, grown; loops end. -/
namespace Go.Proofs.YtbjokgnnklcbcaaGreatDoor
open Go.RowKit
theorem RdB.setN {w : World} {g : Nat} {l : List Tk} {v1 v2 v3 : Value} (h : RdB w g l v1 v2 v3) (u : Value) :
  RdB (w.setCell ⟨g, 1, none⟩ u) g l u v2 v3 ∧ RdB (w.setCell ⟨g, 2, none⟩ u) g l v1 u v3 ∧ RdB (w.setCell ⟨g, 3, none⟩ u) g l v1 v2 u := by
 obtain ⟨h0, A, cap, h1, h2, h3, h4⟩ := h
 refine ⟨⟨h0, A, cap, h1, h2, ?_, h4.setB _⟩, ⟨h0, A, cap, h1, h2, ?_, h4.setB _⟩, ⟨h0, A, cap, h1, h2, ?_, h4.setB _⟩⟩
 all_goals simp [World.setCell, Array.getElem?_modify, h3]
theorem RfB.setN {w : World} {g : Nat} {r : Rf} {v1 v2 v3 : Value} (h : RfB w g r v1 v2 v3) (u : Value) :
  RfB (w.setCell ⟨g, 2, none⟩ u) g r u v2 v3 ∧ RfB (w.setCell ⟨g, 3, none⟩ u) g r v1 u v3 ∧ RfB (w.setCell ⟨g, 4, none⟩ u) g r v1 v2 u := by
 obtain ⟨h0, A, cap, T, k, h1, h2, h3⟩ := h
 refine ⟨⟨h0, A, cap, T, k, h1, h2.setB _, ?_⟩, ⟨h0, A, cap, T, k, h1, h2.setB _, ?_⟩, ⟨h0, A, cap, T, k, h1, h2.setB _, ?_⟩⟩
 all_goals simp [World.setCell, Array.getElem?_modify, h3]
/-- The block says nothing of the network. -/
theorem RfB.net {w : World} {g : Nat} {r : Rf} {v1 v2 v3 : Value} (h : RfB w g r v1 v2 v3) (n : Net) : RfB w g ⟨r.l, n, r.bad⟩ v1 v2 v3 := h
theorem NetN.set {w : World} {g i : Nat} {v1 v2 v3 u : Value} {n : Net} (h : NetN w g v1 v2 v3 n) : NetN (w.setCell ⟨g, i, none⟩ u) g v1 v2 v3 n := h.grg (Grg.set g w i u)
theorem nameT_le {l l' : List Tk} {s : List UInt8} (h : nameT l = .ok (s, l')) : l'.length ≤ l.length := by
 rw [(nameT_ok h).2.2]; exact advT_le l
theorem portsT_le : ∀ (f : Nat) (acc : List Int) (l : List Tk) (ps : List Int) (l' : List Tk), portsT f acc l = .ok (ps, l') → l'.length ≤ l.length
 | 0, acc, l, ps, l', h => by
  unfold portsT at h
  injection h with h
  injection h with _ h
  rw [h]; exact Nat.le_refl _
 | f + 1, acc, l, ps, l', h => by
  unfold portsT at h
  split at h
  ·injection h with h
   injection h with _ h
   rw [h]; exact Nat.le_refl _
  ·split at h
   ·cases h
   ·split at h
    ·cases h
    ·rename_i p l1 hp
     split at h
     ·cases h
     ·split at h
      ·cases h
      ·rename_i l2 hw
       have h1 := portsT_le f _ _ ps l' h
       have h2 := (wantT_ok hw).2
       have h3 := (portT_ok hp).2.2.2.2.2
       have h4 := advT_le l1
       have h5 := advT_le l
       rw [← h2] at h4
       rw [← h3] at h5
       omega
theorem prtsT_le {l l' : List Tk} {ps : List Int} (h : prtsT l = .ok (ps, l')) : l'.length ≤ l.length := by
 unfold prtsT at h
 split at h
 ·cases h
 ·rename_i l1 hw
  split at h
  ·cases h
  ·rename_i ps' l2 hp
   split at h
   ·cases h
   ·rename_i l3 hw3
    have h' := (Prod.mk.inj (Except.ok.inj h)).2
    subst h'
    have h1 := portsT_le _ _ _ _ _ hp
    have h2 := (wantT_ok hw).2
    have h3 := (wantT_ok hw3).2
    have h4 := advT_le l
    have h5 := advT_le l2
    rw [← h2] at h4
    rw [← h3] at h5
    omega
/-- A switch takes tokens off. -/
theorem swT_less {n n' : Net} {l l' : List Tk} (h0 : hasEnd l) (hs : isT bSwitch l = true) (h : swT n l = .ok (n', l')) : l'.length < l.length ∧ n.sw.length < 8 := by
 have h1 := advT_lt h0 (isT_kind hs)
 unfold swT at h
 split at h
 ·cases h
 ·rename_i h8
  split at h
  ·cases h
  ·rename_i s l1 hn
   split at h
   ·cases h
   ·split at h
    ·cases h
    ·rename_i ps l2 hp
     have h' := (Prod.mk.inj (Except.ok.inj h)).2
     subst h'
     have h2 := nameT_le hn
     have h3 := prtsT_le hp
     exact ⟨by omega, by omega⟩
theorem endT_le {n : Net} {l l' : List Tk} {pl : Nat} {e : Int × Int} (h : endT n l = .ok (pl, e, l')) : l'.length ≤ l.length := by
 unfold endT at h
 split at h
 ·cases h
 ·rename_i s l1 hn
  split at h
  ·split at h
   ·cases h
   ·rename_i l2 hw
    split at h
    ·cases h
    ·rename_i p l3 hp
     split at h
     ·cases h
     ·split at h
      ·cases h
      ·have h' := (Prod.mk.inj (Prod.mk.inj (Except.ok.inj h)).2).2
       subst h'
       have h1 := nameT_le hn
       have h2 := (wantT_ok hw).2
       have h3 := (portT_ok hp).2.2.2.2.2
       have h4 := advT_le l1
       have h5 := advT_le l2
       rw [← h2] at h4
       rw [← h3] at h5
       omega
  ·cases h
/-- A link takes tokens off. -/
theorem lnT_less {n n' : Net} {l l' : List Tk} (h0 : hasEnd l) (hs : isT bLink l = true) (h : lnT n l = .ok (n', l')) : l'.length < l.length := by
 have h1 := advT_lt h0 (isT_kind hs)
 unfold lnT at h
 split at h
 ·cases h
 ·rename_i a l1 ha
  split at h
  ·cases h
  ·rename_i pl b l2 hb
   split at h
   ·cases h
   ·split at h
    ·cases h
    ·rename_i l3 hw
     have h' := (Prod.mk.inj (Except.ok.inj h)).2
     subst h'
     have h2 := endT_le ha
     have h3 := endT_le hb
     have h4 := (wantT_ok hw).2
     have h5 := advT_le l2
     rw [← h4] at h5
     omega
end Go.Proofs.YtbjokgnnklcbcaaGreatDoor
/-! Layer 13: what Lex hands over may be read. -/
namespace Go.Proofs.YtbjokgnnklcbcaaGreatDoor
open Go.RowKit
theorem lex_hasEnd {L : List UInt8} {r : List Tk} (h : lexR L = .ok r) : hasEnd r := by
 unfold lexR at h
 split at h
 ·cases h
 ·rename_i hl
  obtain ⟨h1, h2, -, -, -⟩ := lexL_facts 0 L _ 0 L r (Nat.lt_succ_self _) List.drop_zero (by omega) h
  have hp := List.length_pos_iff.2 h1
  refine ⟨⟨r[r.length - 1], List.getElem_mem _, (h2 (r.length - 1) (by omega)).1 (by omega)⟩, fun t ht => ?_⟩
  obtain ⟨j, hj, rfl⟩ := List.getElem_of_mem ht
  have := (h2 j hj).2.2.length_le
  rw [List.length_drop] at this
  omega
/-- How Read ends. -/
def ReadE (L : List UInt8) (e : Ending) (w' : World) : Prop :=
 match readT L with
 | .error (x, k) => e = .returned (.tuple #[.agg #[.slice none 0 0, .slice none 0 0, .slice none 0 0], faultV x (L.take k)])
 | .ok n => ∃ A1 A2 A3 c1 c2 c3, e = .returned (.tuple #[.agg #[.slice A1 n.sw.length c1, .slice A2 n.ports.length c2, .slice A3 n.links.length c3], noFault]) ∧ NetS w' w'.heap.size A1 A2 A3 n
theorem ReadE.err {L : List UInt8} {x : Int × Nat} (h : readT L = .error x) (w' : World) : ReadE L (.returned (.tuple #[.agg #[.slice none 0 0, .slice none 0 0, .slice none 0 0], faultV x.1 (L.take x.2)])) w' := by
 unfold ReadE
 rw [h]
theorem ReadE.ok {L : List UInt8} {n : Net} (h : readT L = .ok n) {w' : World} {A1 A2 A3 : Option Addr} (c1 c2 c3 : Nat) (hN : NetS w' w'.heap.size A1 A2 A3 n) : ReadE L (.returned (.tuple #[.agg #[.slice A1 n.sw.length c1, .slice A2 n.ports.length c2, .slice A3 n.links.length c3], noFault])) w' := by
 unfold ReadE
 rw [h]
 exact ⟨A1, A2, A3, c1, c2, c3, rfl, hN⟩
end Go.Proofs.YtbjokgnnklcbcaaGreatDoor
/-! Layer 13: plain facts of the document's reader. -/
namespace Go.Proofs.YtbjokgnnklcbcaaGreatDoor
open Go.RowKit
theorem lex_len {L : List UInt8} {r : List Tk} (h : lexR L = .ok r) : r.length ≤ 65537 := by
 unfold lexR at h
 split at h
 ·cases h
 ·rename_i hl
  have := (lexL_facts 0 L _ 0 L r (Nat.lt_succ_self _) List.drop_zero (by omega) h).2.2.1
  omega
end Go.Proofs.YtbjokgnnklcbcaaGreatDoor
/-! Layer 13: plain: where a fault stands. -/
namespace Go.Proofs.YtbjokgnnklcbcaaGreatDoor
open Go.RowKit
def plN (N : Nat) (l : List Tk) : Prop := ∀ t ∈ l, t.pl ≤ N
def ErT (N : Nat) {α : Type} (P : α → Prop) (x : Except (Int × Nat) α) : Prop := match x with
 | .error e => e.1 ≠ 0 ∧ e.2 ≤ N
 | .ok a => P a
theorem plN.head {N : Nat} {l : List Tk} (h : plN N l) : (headT l).pl ≤ N := by
 cases l with
 | nil => exact Nat.zero_le _
 | cons a r => exact h a List.mem_cons_self
theorem plN.adv {N : Nat} {l : List Tk} (h : plN N l) : plN N (advT l) := by
 unfold advT
 split
 ·exact h
 ·exact fun t ht => h t (List.mem_of_mem_tail ht)
theorem wantT_er {N : Nat} {l : List Tk} (s : List UInt8) (h : plN N l) : ErT N (plN N) (wantT s l) := by
 unfold wantT
 split
 ·exact h.adv
 ·exact ⟨by simp, h.head⟩
theorem nameT_er {N : Nat} {l : List Tk} (h : plN N l) : ErT N (fun x => plN N x.2) (nameT l) := by
 unfold nameT
 split
 ·exact h.adv
 ·exact ⟨by simp, h.head⟩
theorem portT_er {N : Nat} {l : List Tk} (h : plN N l) : ErT N (fun x => plN N x.2) (portT l) := by
 unfold portT
 simp only
 repeat' split
 all_goals first
  | exact ⟨by simp, h.head⟩
  | exact h.adv
theorem portsT_er {N : Nat} : ∀ (f : Nat) (acc : List Int) (l : List Tk), plN N l → ErT N (fun x => plN N x.2) (portsT f acc l)
 | 0, acc, l, h => h
 | f + 1, acc, l, h => by
  unfold portsT
  split
  ·exact h
  ·split
   ·exact ⟨by simp, h.head⟩
   ·have hp := portT_er h
    cases hpt : portT l with
    | error e => rw [hpt] at hp; exact hp
    | ok x =>
     obtain ⟨p, l1⟩ := x
     rw [hpt] at hp
     simp only
     split
     ·exact ⟨by simp, h.head⟩
     ·have hw := wantT_er bSemi hp
      cases hwt : wantT bSemi l1 with
      | error e => simp only at hw; rw [hwt] at hw; exact hw
      | ok l2 => simp only at hw; rw [hwt] at hw; exact portsT_er f _ l2 hw
theorem prtsT_er {N : Nat} {l : List Tk} (h : plN N l) : ErT N (fun x => plN N x.2) (prtsT l) := by
 unfold prtsT
 have h1 := wantT_er bOpen h
 cases hw : wantT bOpen l with
 | error e => rw [hw] at h1; exact h1
 | ok l1 =>
  rw [hw] at h1
  simp only
  have h2 := portsT_er l1.length [] l1 h1
  cases hp : portsT l1.length [] l1 with
  | error e => rw [hp] at h2; exact h2
  | ok x =>
   obtain ⟨ps, l2⟩ := x
   rw [hp] at h2
   simp only
   have h3 := wantT_er bShut (l := l2) h2
   cases hw3 : wantT bShut l2 with
   | error e => rw [hw3] at h3; exact h3
   | ok l3 => rw [hw3] at h3; exact h3
theorem endT_er {N : Nat} {l : List Tk} (n : Net) (h : plN N l) : ErT N (fun x => x.1 ≤ N ∧ plN N x.2.2) (endT n l) := by
 unfold endT
 have h1 := nameT_er h
 cases hn : nameT l with
 | error e => rw [hn] at h1; exact h1
 | ok x =>
  obtain ⟨s, l1⟩ := x
  rw [hn] at h1
  simp only
  split
  ·have h2 := wantT_er bColon (l := l1) h1
   cases hw : wantT bColon l1 with
   | error e => rw [hw] at h2; exact h2
   | ok l2 =>
    rw [hw] at h2
    simp only
    have h3 := portT_er (l := l2) h2
    have h2' : plN N l2 := h2
    cases hp : portT l2 with
    | error e => rw [hp] at h3; exact h3
    | ok x =>
     obtain ⟨p, l3⟩ := x
     rw [hp] at h3
     simp only
     split
     ·exact ⟨by simp, h2'.head⟩
     ·split
      ·exact ⟨by simp, h2'.head⟩
      ·exact ⟨h2'.head, h3⟩
  ·exact ⟨by simp, h.head⟩
theorem swT_er {N : Nat} {l : List Tk} (n : Net) (h : plN N l) : ErT N (fun x => plN N x.2) (swT n l) := by
 unfold swT
 split
 ·exact ⟨by simp, h.head⟩
 ·have h1 := nameT_er h.adv
  cases hn : nameT (advT l) with
  | error e => rw [hn] at h1; exact h1
  | ok x =>
   obtain ⟨s, l1⟩ := x
   rw [hn] at h1
   simp only
   split
   ·exact ⟨by simp, h.adv.head⟩
   ·have h2 := prtsT_er (l := l1) h1
    cases hp : prtsT l1 with
    | error e => rw [hp] at h2; exact h2
    | ok x =>
     obtain ⟨ps, l2⟩ := x
     rw [hp] at h2
     exact h2
theorem swsT_er {N : Nat} : ∀ (f : Nat) (n : Net) (l : List Tk), plN N l → ErT N (fun x => plN N x.2) (swsT f n l)
 | 0, n, l, h => h
 | f + 1, n, l, h => by
  unfold swsT
  split
  ·have h1 := swT_er n h
   cases hs : swT n l with
   | error e => rw [hs] at h1; exact h1
   | ok x =>
    obtain ⟨n1, l1⟩ := x
    rw [hs] at h1
    exact swsT_er f n1 l1 h1
  ·exact h
theorem lnT_er {N : Nat} {l : List Tk} (n : Net) (h : plN N l) : ErT N (fun x => plN N x.2) (lnT n l) := by
 unfold lnT
 have h1 := endT_er n h.adv
 cases he : endT n (advT l) with
 | error e => rw [he] at h1; exact h1
 | ok x =>
  obtain ⟨pl, a, l1⟩ := x
  rw [he] at h1
  simp only
  have h2 := endT_er n (l := l1) h1.2
  cases he2 : endT n l1 with
  | error e => rw [he2] at h2; exact h2
  | ok x =>
   obtain ⟨pl2, b, l2⟩ := x
   rw [he2] at h2
   simp only
   split
   ·exact ⟨by simp, h2.1⟩
   ·have h3 := wantT_er bSemi (l := l2) h2.2
    cases hw : wantT bSemi l2 with
    | error e => rw [hw] at h3; exact h3
    | ok l3 => rw [hw] at h3; exact h3
theorem lnsT_er {N : Nat} : ∀ (f : Nat) (n : Net) (l : List Tk), plN N l → ErT N (fun x => plN N x.2) (lnsT f n l)
 | 0, n, l, h => h
 | f + 1, n, l, h => by
  unfold lnsT
  split
  ·have h1 := lnT_er n h
   cases hs : lnT n l with
   | error e => rw [hs] at h1; exact h1
   | ok x =>
    obtain ⟨n1, l1⟩ := x
    rw [hs] at h1
    exact lnsT_er f n1 l1 h1
  ·exact h
theorem allT_er {N : Nat} {l : List Tk} (h : plN N l) : ErT N (fun _ => True) (allT l) := by
 unfold allT
 have h1 := swsT_er l.length emptyN l h
 cases hs : swsT l.length emptyN l with
 | error e => rw [hs] at h1; exact h1
 | ok x =>
  obtain ⟨n, l1⟩ := x
  rw [hs] at h1
  simp only
  have h2 := lnsT_er l1.length n l1 h1
  cases hl : lnsT l1.length n l1 with
  | error e => rw [hl] at h2; exact h2
  | ok x =>
   obtain ⟨n2, l2⟩ := x
   rw [hl] at h2
   simp only
   split
   ·trivial
   ·exact ⟨by simp, plN.head (l := l2) h2⟩
theorem lex_pl {L : List UInt8} {r : List Tk} (h : lexR L = .ok r) : plN L.length r := by
 unfold lexR at h
 split at h
 ·cases h
 ·rename_i hl
  have h2 := (lexL_facts 0 L _ 0 L r (Nat.lt_succ_self _) List.drop_zero (by omega) h).2.1
  intro t ht
  obtain ⟨j, hj, rfl⟩ := List.getElem_of_mem ht
  exact (h2 j hj).2.1
/-- A fault behind the lexer: an error's number, a place of the text. -/
theorem all_err {L : List UInt8} {r : List Tk} {x : Int × Nat} (h : lexR L = .ok r) (hx : allT r = .error x) : x.1 ≠ 0 ∧ x.2 ≤ L.length := by
 have h1 := allT_er (lex_pl h)
 rw [hx] at h1
 exact h1
end Go.Proofs.YtbjokgnnklcbcaaGreatDoor

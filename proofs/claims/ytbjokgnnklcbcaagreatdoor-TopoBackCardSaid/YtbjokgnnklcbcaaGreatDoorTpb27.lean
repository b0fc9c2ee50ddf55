import Derived.Test.YtbjokgnnklcbcaaGreatDoorTpb26
import Derived.Test.YtbjokgnnklcbcaaGreatDoorTpb25
set_option linter.all false
/-! Layer 13: what all holds; its plain steps. -/
namespace Go.Proofs.YtbjokgnnklcbcaaGreatDoor
open Go.RowKit
attribute [local go_sem] run_panic_iface
theorem NetN.mono {w : World} {g g' : Nat} {v1 v2 v3 : Value} {n : Net} (h : NetN w g' v1 v2 v3 n) (hg : g ≤ g') : NetN w g v1 v2 v3 n := by
 have hb : g + 1 ≤ g' + 1 := by omega
 obtain ⟨vs, h1, h2, h3⟩ := h.own1
 exact ⟨h.size, own_monoN h.own0 hb, own_monoN h.own2 hb, vs, h1, own_monoN h2 hb, fun i v p hv hp => own_monoN (h3 i v p hv hp) hb⟩
theorem NetN.grg' {w w' : World} {g g' : Nat} {v1 v2 v3 : Value} {n : Net} (h : NetN w g' v1 v2 v3 n) (hG : Grg g w w') (hg : g ≤ g') : NetN w' g' v1 v2 v3 n :=
 ⟨h.size, own_grg h.own0 hG (by omega), own_grg h.own2 hG (by omega), by
  obtain ⟨vs, h1, h2, h3⟩ := h.own1
  exact ⟨vs, h1, own_grg h2 hG (by omega), fun i v p hv hp => own_grg (h3 i v p hv hp) hG (by omega)⟩⟩
/-- What all holds: a box for its result, and the reader. -/
structure AlS (w W : World) (g : Nat) (l : List Tk) (v1 v2 v3 : Value) (n : Net) (mm : Int) : Prop where
 grg : Grg g w W
 rd : RdB W g l v1 v2 v3
 net : NetN W w.heap.size v1 v2 v3 n
 m : W.cell? ⟨0, 0, none⟩ = some (.int .i64 mm)
 lt : w.heap.size < W.heap.size
 z0 : W.cell? ⟨w.heap.size, 0, none⟩ = some (.slice none 0 0)
 z1 : W.cell? ⟨w.heap.size, 1, none⟩ = some (.slice none 0 0)
 z2 : W.cell? ⟨w.heap.size, 2, none⟩ = some (.slice none 0 0)
 fz : ∀ i, W.frozen? ⟨w.heap.size, i, none⟩ = false
theorem AlS.step {w W W' : World} {g : Nat} {l l' : List Tk} {v1 v2 v3 : Value} {n : Net} {mm : Int} (h : AlS w W g l v1 v2 v3 n mm) (hg0 : 0 < g) (hgw : g < w.heap.size) (hG : Grg g W W') (hR : RdB W' g l' v1 v2 v3) : AlS w W' g l' v1 v2 v3 n mm := by
 have hl := h.lt
 have hz := hG.size
 exact ⟨h.grg.trans hG, hR, h.net.grg' hG (by omega), (hG.cell (by omega) (by omega)).trans h.m, by omega, (hG.cell (by omega) (by omega)).trans h.z0, (hG.cell (by omega) (by omega)).trans h.z1, (hG.cell (by omega) (by omega)).trans h.z2, fun i => (hG.frozen (by omega) (by omega)).trans (h.fz i)⟩
theorem AlS.below {w W W' : World} {g : Nat} {l : List Tk} {v1 v2 v3 : Value} {n : Net} {mm : Int} (h : AlS w W g l v1 v2 v3 n mm) (hg0 : 0 < g) (hgw : g < w.heap.size) (hb : Below W.heap.size W W') : AlS w W' g l v1 v2 v3 n mm :=
 h.step hg0 hgw (Grg.of hb) (h.rd.below hb h.rd.lt)
/-- The network grows, or a cell of the reader is stored. -/
theorem AlS.app {w W W' : World} {g : Nat} {l l' : List Tk} {v1 v2 v3 v1' v2' v3' : Value} {n n' : Net} {mm : Int} (h : AlS w W g l v1 v2 v3 n mm) (hg0 : 0 < g) (hgw : g < w.heap.size) (hb : ∀ k, k < w.heap.size + 1 → k ≠ g → W'.heap[k]? = W.heap[k]?) (hG : Grg g w W') (hz : W.heap.size ≤ W'.heap.size) (hR : RdB W' g l' v1' v2' v3') (hN : NetN W' w.heap.size v1' v2' v3' n') : AlS w W' g l' v1' v2' v3' n' mm := by
 have hl := h.lt
 have hc : ∀ k i, k < w.heap.size + 1 → k ≠ g → W'.cell? ⟨k, i, none⟩ = W.cell? ⟨k, i, none⟩ := fun k i hk hn => World.cell?_of_block (hb k hk hn)
 exact ⟨hG, hR, hN, (hc 0 0 (by omega) (by omega)).trans h.m, by omega, (hc _ _ (by omega) (by omega)).trans h.z0, (hc _ _ (by omega) (by omega)).trans h.z1, (hc _ _ (by omega) (by omega)).trans h.z2, fun i => (World.frozen?_of_block (a := ⟨w.heap.size, i, none⟩) (hb w.heap.size (by omega) (by omega))).trans (h.fz i)⟩
/-- How all ends. -/
def allE13 (g : Nat) (w : World) (r : Except (Int × Nat) Net) (e : Ending) (w' : World) : Prop :=
 Grg g w w' ∧ match r with
  | .ok n => ∃ A1 A2 A3 c1 c2 c3, e = .returned (.agg #[.slice A1 n.sw.length c1, .slice A2 n.ports.length c2, .slice A3 n.links.length c3]) ∧ NetN w' w.heap.size (.slice A1 n.sw.length c1) (.slice A2 n.ports.length c2) (.slice A3 n.links.length c3) n
  | .error x => e = pwr x
def finL : Except (Int × Nat) (Net × List Tk) → Except (Int × Nat) Net
 | .error e => .error e
 | .ok (n2, l2) => if (headT l2).kind = 0 then .ok n2 else .error (4, (headT l2).pl)
def finS : Except (Int × Nat) (Net × List Tk) → Except (Int × Nat) Net
 | .error e => .error e
 | .ok (n, l1) => finL (lnsT l1.length n l1)
theorem allT_fin (l : List Tk) : allT l = finS (swsT l.length emptyN l) := by
 unfold allT finS
 cases swsT l.length emptyN l with
 | error e => rfl
 | ok x =>
  obtain ⟨n, l1⟩ := x
  simp only
  unfold finL
  cases lnsT l1.length n l1 with
  | error e => rfl
  | ok y => rfl
theorem sws_err {f : Nat} {n : Net} {l : List Tk} {x : Int × Nat} (hs : isT bSwitch l = true) (h : swT n l = .error x) : swsT (f + 1) n l = .error x := by rw [swsT, hs]; simp only [if_true, h]
theorem sws_ok {f : Nat} {n n' : Net} {l l' : List Tk} (hs : isT bSwitch l = true) (h : swT n l = .ok (n', l')) : swsT (f + 1) n l = swsT f n' l' := by rw [swsT, hs]; simp only [if_true, h]
theorem sws_end {f : Nat} {n : Net} {l : List Tk} (hs : isT bSwitch l = false) : swsT f n l = .ok (n, l) := by
 cases f with
 | zero => rfl
 | succ f => rw [swsT, hs]; rfl
theorem lns_err {f : Nat} {n : Net} {l : List Tk} {x : Int × Nat} (hs : isT bLink l = true) (h : lnT n l = .error x) : lnsT (f + 1) n l = .error x := by rw [lnsT, hs]; simp only [if_true, h]
theorem lns_ok {f : Nat} {n n' : Net} {l l' : List Tk} (hs : isT bLink l = true) (h : lnT n l = .ok (n', l')) : lnsT (f + 1) n l = lnsT f n' l' := by rw [lnsT, hs]; simp only [if_true, h]
theorem lns_end {f : Nat} {n : Net} {l : List Tk} (hs : isT bLink l = false) : lnsT f n l = .ok (n, l) := by
 cases f with
 | zero => rfl
 | succ f => rw [lnsT, hs]; rfl
theorem sw_e5 {n : Net} {l : List Tk} (h : ¬ n.sw.length < 8) : swT n l = .error (5, (headT l).pl) := by unfold swT; rw [if_pos h]
theorem sw_e4 {n : Net} {l : List Tk} {x : Int × Nat} (h : n.sw.length < 8) (hn : nameT (advT l) = .error x) : swT n l = .error x := by unfold swT; rw [if_neg (fun g => g h), hn]
theorem sw_e8 {n : Net} {l l1 : List Tk} {s : List UInt8} (h : n.sw.length < 8) (hn : nameT (advT l) = .ok (s, l1)) (hm : ⟨s.toArray⟩ ∈ n.sw) : swT n l = .error (8, (headT (advT l)).pl) := by unfold swT; rw [if_neg (fun g => g h), hn]; simp only [if_pos hm]
theorem sw_ep {n : Net} {l l1 : List Tk} {s : List UInt8} {x : Int × Nat} (h : n.sw.length < 8) (hn : nameT (advT l) = .ok (s, l1)) (hm : ¬ ⟨s.toArray⟩ ∈ n.sw) (hp : prtsT l1 = .error x) : swT n l = .error x := by unfold swT; rw [if_neg (fun g => g h), hn]; simp only [if_neg hm, hp]
theorem sw_ok {n : Net} {l l1 l2 : List Tk} {s : List UInt8} {ps : List Int} (h : n.sw.length < 8) (hn : nameT (advT l) = .ok (s, l1)) (hm : ¬ ⟨s.toArray⟩ ∈ n.sw) (hp : prtsT l1 = .ok (ps, l2)) : swT n l = .ok (⟨n.sw ++ [⟨s.toArray⟩], n.ports ++ [ps], n.links⟩, l2) := by unfold swT; rw [if_neg (fun g => g h), hn]; simp only [if_neg hm, hp]
theorem ln_e1 {n : Net} {l : List Tk} {x : Int × Nat} (h : endT n (advT l) = .error x) : lnT n l = .error x := by unfold lnT; rw [h]
theorem ln_e2 {n : Net} {l l1 : List Tk} {pl : Nat} {a : Int × Int} {x : Int × Nat} (h : endT n (advT l) = .ok (pl, a, l1)) (h2 : endT n l1 = .error x) : lnT n l = .error x := by unfold lnT; rw [h]; simp only [h2]
theorem ln_e8 {n : Net} {l l1 l2 : List Tk} {pl pl2 : Nat} {a b : Int × Int} (h : endT n (advT l) = .ok (pl, a, l1)) (h2 : endT n l1 = .ok (pl2, b, l2)) (hab : a = b) : lnT n l = .error (8, pl2) := by unfold lnT; rw [h]; simp only [h2, if_pos hab]
theorem ln_e4 {n : Net} {l l1 l2 : List Tk} {pl pl2 : Nat} {a b : Int × Int} {x : Int × Nat} (h : endT n (advT l) = .ok (pl, a, l1)) (h2 : endT n l1 = .ok (pl2, b, l2)) (hab : ¬ a = b) (hw : wantT bSemi l2 = .error x) : lnT n l = .error x := by unfold lnT; rw [h]; simp only [h2, if_neg hab, hw]
theorem ln_ok {n : Net} {l l1 l2 l3 : List Tk} {pl pl2 : Nat} {a b : Int × Int} (h : endT n (advT l) = .ok (pl, a, l1)) (h2 : endT n l1 = .ok (pl2, b, l2)) (hab : ¬ a = b) (hw : wantT bSemi l2 = .ok l3) : lnT n l = .ok (⟨n.sw, n.ports, n.links ++ [(a, b)]⟩, l3) := by unfold lnT; rw [h]; simp only [h2, if_neg hab, hw]
/-- A switch more. -/
theorem AlS.sw {w W WA W3 WB : World} {g : Nat} {l l2 : List Tk} {v1 v2 v3 u1 u2 : Value} {n n' : Net} {mm : Int} (h : AlS w W g l v1 v2 v3 n mm) (hg0 : 0 < g) (hgw : g < w.heap.size) (hbA : Below (w.heap.size + 1) W.drew WA) (hG3 : Grg g WA W3) (hbB : Below (w.heap.size + 1) W3 WB) (hR : RdB WB g l2 v1 v2 v3) (hN : NetN WB w.heap.size u1 u2 v3 n') : AlS w ((WB.setCell ⟨g, 1, none⟩ u1).setCell ⟨g, 2, none⟩ u2) g l2 u1 u2 v3 n' mm := by
 have hs0 : W.heap.size ≤ WA.heap.size := hbA.size
 have hs1 := hG3.size
 have hs2 := hbB.size
 have hl := h.lt
 refine h.app hg0 hgw (fun k hk hn => ?_) ((((((show Grg g w W.drew from h.grg.drew).app (hbA.mono (Nat.le_succ _))).trans hG3).app (hbB.mono (Nat.le_succ _))).trans (Grg.set _ _ _ _)).trans (Grg.set _ _ _ _)) ?_ ?_ ?_
 ·rw [(Grg.set g _ 2 u2).block k (by rw [setCell_size]; omega) (by simp; omega), (Grg.set g _ 1 u1).block k (by omega) (by simp; omega), hbB.block k hk, hG3.block k (by omega) (by simp; omega), hbA.block k hk]
  rfl
 ·rw [setCell_size, setCell_size]; omega
 ·exact ((hR.setN u1).1.setN u2).2.1
 ·exact (hN.grg' (Grg.set _ _ _ _) (Nat.le_of_lt hgw)).grg' (Grg.set _ _ _ _) (Nat.le_of_lt hgw)
/-- A link more. -/
theorem AlS.ln {w W WA : World} {g : Nat} {l : List Tk} {v1 v2 v3 u3 : Value} {n n' : Net} {mm : Int} (h : AlS w W g l v1 v2 v3 n mm) (hg0 : 0 < g) (hgw : g < w.heap.size) (hbA : Below (w.heap.size + 1) W.drew WA) (hN : NetN WA w.heap.size v1 v2 u3 n') : AlS w (WA.setCell ⟨g, 3, none⟩ u3) g l v1 v2 u3 n' mm := by
 have hs0 : W.heap.size ≤ WA.heap.size := hbA.size
 have hl := h.lt
 refine h.app hg0 hgw (fun k hk hn => ?_) (((show Grg g w W.drew from h.grg.drew).app (hbA.mono (Nat.le_succ _))).trans (Grg.set _ _ _ _)) ?_ ?_ ?_
 ·rw [(Grg.set g _ 3 u3).block k (by omega) (by simp; omega), hbA.block k hk]
  rfl
 ·rw [setCell_size]; omega
 ·exact ((RdB.below (w := W.drew) h.rd hbA (by omega)).setN u3).2.2
 ·exact hN.grg' (Grg.set _ _ _ _) (Nat.le_of_lt hgw)
theorem end_tk {w : World} {g pl : Nat} {fn : FuncId} {args : Array Value} {ea : Int × Int} {l1 : List Tk} {v1 v2 v3 : Value} (h : Calls Tryz.prog fn args w fun e w' => Grg g w w' ∧ (∃ t : Tk, t.pl = pl ∧ e = .returned (.tuple #[tkA t, endV ea])) ∧ RdB w' g l1 v1 v2 v3) :
  Calls Tryz.prog fn args w fun e w' => Grg g w w' ∧ (∃ (k wd hi lo : Int) (S : ByteArray), e = .returned (.tuple #[.agg #[.int .u8 k, .string S, .int .i64 wd, .int .u64 hi, .int .u64 lo, .int .i64 (pl : Int)], .agg #[.int .i64 ea.1, .int .i64 ea.2]])) ∧ RdB w' g l1 v1 v2 v3 :=
 h.mono fun _ _ ⟨h1, ⟨t, ht, he⟩, h3⟩ => ⟨h1, ⟨t.kind, t.w, ((t.n / 18446744073709551616 : Nat) : Int), ((t.n % 18446744073709551616 : Nat) : Int), ⟨t.s.toArray⟩, by rw [he, ← ht]⟩, h3⟩
set_option maxHeartbeats 1000000 in
theorem askv (b : Bool) (k wd hi lo : Int) (pl : Nat) (S : ByteArray) (n : Int) (w : World) : Calls Tryz.prog 47 #[.bool b, .agg #[.int .u8 k, .string S, .int .i64 wd, .int .u64 hi, .int .u64 lo, .int .i64 (pl : Int)], .int .i64 n] w fun e w' => e = (if b then .returned (.tuple #[]) else pwr (n, pl)) ∧ Below w.heap.size w w' := by
 obtain ⟨wa, hwa, hba, hsa, hl, x0, x1, x2, x3, x4, x5⟩ := tbox13 w k wd hi lo pl S
 cases b with
 | true =>
  simp only [if_true]
  go_enter Tryz.func47, Tryz.ntmps47
  go_wp2
  first | (go_end0; exact ⟨rfl, hba.out⟩) | skip
 | false =>
  simp only [Bool.false_eq_true, if_false]
  go_enter Tryz.func47, Tryz.ntmps47
  go_wp2
  exact ⟨rfl, rfl, hba.out⟩
end Go.Proofs.YtbjokgnnklcbcaaGreatDoor

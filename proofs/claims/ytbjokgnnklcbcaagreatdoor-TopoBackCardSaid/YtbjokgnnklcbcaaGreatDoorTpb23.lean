import Derived.Test.YtbjokgnnklcbcaaGreatDoorTpb20
import Derived.Test.YtbjokgnnklcbcaaGreatDoorTpb21
import Derived.Test.YtbjokgnnklcbcaaGreatDoorTpb22
import Derived.Test.YtbjokgnnklcbcaaGreatDoorTpb04
set_option linter.all false
/-! Layer 13: the network that a reader holds. -/
namespace Go.Proofs.YtbjokgnnklcbcaaGreatDoor
open Go.RowKit
theorem own_grg {w w' : World} {base g n size : Nat} {e : TypeId} {v : Value} {xs : List Value} (h : w.ownsRow base e size v n xs) (hG : Grg g w w') (hg : g < base) : w'.ownsRow base e size v n xs := by
 refine ⟨h.1, ?_⟩
 rcases h.2 with h2 | ⟨b, cap, cur, rfl, hb, hh, r⟩
 ·exact .inl h2
 ·exact .inr ⟨b, cap, cur, rfl, hb, (hG.block b (h.lt b rfl).2 (by simp; omega)).trans hh, r⟩
/-- The network so far: rows of the call's own. -/
structure NetN (w : World) (g : Nat) (v1 v2 v3 : Value) (n : Net) : Prop where
 size : ∀ s ∈ n.sw, s.size ≤ maxLen
 own0 : w.ownsRow (g + 1) 9 1 v1 n.sw.length (n.sw.map Value.string)
 own2 : w.ownsRow (g + 1) 72 4 v3 n.links.length (n.links.flatMap fun x => [.int .i64 x.1.1, .int .i64 x.1.2, .int .i64 x.2.1, .int .i64 x.2.2])
 own1 : ∃ vs : List Value, vs.length = n.ports.length ∧ w.ownsRow (g + 1) 39 1 v2 n.ports.length vs ∧ ∀ (i : Nat) (v : Value) (p : List Int), vs[i]? = some v → n.ports[i]? = some p → w.ownsRow (g + 1) 3 1 v p.length (p.map (Value.int .i64))
theorem NetN.grg {w w' : World} {g : Nat} {v1 v2 v3 : Value} {n : Net} (h : NetN w g v1 v2 v3 n) (hG : Grg g w w') : NetN w' g v1 v2 v3 n :=
 ⟨h.size, own_grg h.own0 hG (Nat.lt_succ_self _), own_grg h.own2 hG (Nat.lt_succ_self _), by
  obtain ⟨vs, h1, h2, h3⟩ := h.own1
  exact ⟨vs, h1, own_grg h2 hG (Nat.lt_succ_self _), fun i v p hv hp => own_grg (h3 i v p hv hp) hG (Nat.lt_succ_self _)⟩⟩
theorem NetN.netS {w : World} {g : Nat} {v1 v2 v3 : Value} {n : Net} (h : NetN w g v1 v2 v3 n) : ∃ A1 A2 A3 c1 c2 c3, v1 = .slice A1 n.sw.length c1 ∧ v2 = .slice A2 n.ports.length c2 ∧ v3 = .slice A3 n.links.length c3 ∧ NetS w w.heap.size A1 A2 A3 n := by
 have h5 : w.ownsRow (g + 1) 9 1 v1 n.sw.length (n.sw.flatMap fun x => [Value.string x]) := by rw [← List.map_eq_flatMap]; exact h.own0
 obtain ⟨A1, c1, e1, s1⟩ := own_sl (R := rStr) (k := 1) (f := fun x => [Value.string x]) (xs := n.sw) (fun _ => rfl) (fun x hx => ⟨rfl, h.size x hx⟩) h5
 obtain ⟨A3, c3, e3, s3⟩ := own_sl (R := rLink) (k := 4) (f := fun x => [.int .i64 x.1.1, .int .i64 x.1.2, .int .i64 x.2.1, .int .i64 x.2.2]) (xs := n.links) (fun _ => rfl) (fun _ _ => rfl) h.own2
 obtain ⟨vs, h1, h2, h3⟩ := h.own1
 obtain ⟨A2, c2, e2, s2⟩ := own_rows h1 h2 h3
 exact ⟨A1, A2, A3, c1, c2, c3, e1, e2, e3, s1, s2, s3⟩
theorem NetN.nil_ (w : World) (g : Nat) : NetN w g (.slice none 0 0) (.slice none 0 0) (.slice none 0 0) emptyN :=
 ⟨fun s hs => by simp [emptyN] at hs, World.ownsRow_nil _ _ _ _, World.ownsRow_nil _ _ _ _, [], rfl, World.ownsRow_nil _ _ _ _, fun i v p hv => by simp at hv⟩
/-- What end holds: two boxes for its results, and the reader. -/
structure EnS (w W : World) (g : Nat) (l : List Tk) (v1 v2 v3 : Value) (n : Net) (mm : Int) : Prop where
 grg : Grg g w W
 rd : RdB W g l v1 v2 v3
 net : NetN W g v1 v2 v3 n
 m : W.cell? ⟨0, 0, none⟩ = some (.int .i64 mm)
 lt : w.heap.size + 1 < W.heap.size
 u0 : W.cell? ⟨w.heap.size, 0, none⟩ = some (.int .u8 0)
 u1 : W.cell? ⟨w.heap.size, 1, none⟩ = some (.string ⟨#[]⟩)
 u2 : W.cell? ⟨w.heap.size, 2, none⟩ = some (.int .i64 0)
 u3 : W.cell? ⟨w.heap.size, 3, none⟩ = some (.int .u64 0)
 u4 : W.cell? ⟨w.heap.size, 4, none⟩ = some (.int .u64 0)
 u5 : W.cell? ⟨w.heap.size, 5, none⟩ = some (.int .i64 0)
 z0 : W.cell? ⟨w.heap.size + 1, 0, none⟩ = some (.int .i64 0)
 z1 : W.cell? ⟨w.heap.size + 1, 1, none⟩ = some (.int .i64 0)
 fu : ∀ i, W.frozen? ⟨w.heap.size, i, none⟩ = false
 fz : ∀ i, W.frozen? ⟨w.heap.size + 1, i, none⟩ = false
theorem EnS.step {w W W' : World} {g : Nat} {l l' : List Tk} {v1 v2 v3 : Value} {n : Net} {mm : Int} (h : EnS w W g l v1 v2 v3 n mm) (hg0 : 0 < g) (hgw : g < w.heap.size) (hG : Grg g W W') (hR : RdB W' g l' v1 v2 v3) : EnS w W' g l' v1 v2 v3 n mm := by
 have hl := h.lt
 have hz := hG.size
 exact ⟨h.grg.trans hG, hR, h.net.grg hG, (hG.cell (by omega) (by omega)).trans h.m, by omega, (hG.cell (by omega) (by omega)).trans h.u0, (hG.cell (by omega) (by omega)).trans h.u1, (hG.cell (by omega) (by omega)).trans h.u2, (hG.cell (by omega) (by omega)).trans h.u3, (hG.cell (by omega) (by omega)).trans h.u4, (hG.cell (by omega) (by omega)).trans h.u5, (hG.cell (by omega) (by omega)).trans h.z0, (hG.cell (by omega) (by omega)).trans h.z1, fun i => (hG.frozen (by omega) (by omega)).trans (h.fu i), fun i => (hG.frozen (by omega) (by omega)).trans (h.fz i)⟩
theorem EnS.below {w W W' : World} {g : Nat} {l : List Tk} {v1 v2 v3 : Value} {n : Net} {mm : Int} (h : EnS w W g l v1 v2 v3 n mm) (hg0 : 0 < g) (hgw : g < w.heap.size) (hb : Below W.heap.size W W') : EnS w W' g l v1 v2 v3 n mm :=
 h.step hg0 hgw (Grg.of hb) (h.rd.below hb h.rd.lt)
theorem EnS.new {w : World} {g : Nat} {l : List Tk} {v1 v2 v3 : Value} {n : Net} {mm : Int} (h : RdB w g l v1 v2 v3) (hN : NetN w g v1 v2 v3 n) (hg0 : 0 < g) (hm : w.cell? ⟨0, 0, none⟩ = some (.int .i64 mm)) :
  ∃ wa wb, w.alloc (.cells #[.int .u8 0, .string ⟨#[]⟩, .int .i64 0, .int .u64 0, .int .u64 0, .int .i64 0] 64) = wa ∧ wa.heap.size = w.heap.size + 1 ∧ wa.alloc (.cells #[.int .i64 0, .int .i64 0] 41) = wb ∧ Hid (EnS w wb g l v1 v2 v3 n mm) := by
 have lt := h.lt
 obtain ⟨wa, hwa, hba, hsa, hla, z0, z1, z2, z3, z4, z5⟩ := tbox13 w 0 0 0 0 0 ⟨#[]⟩
 have hfa : ∀ i, wa.frozen? ⟨w.heap.size, i, none⟩ = false := by intro i; rw [← hwa]; exact World.frozen?_alloc_at _ _ _ _ rfl
 obtain ⟨wb, hwb, hsb, hbb, hcb, hfb⟩ := box1 wa #[.int .i64 0, .int .i64 0] 41
 have kb := bcell' hbb
 have hB := hba.out.trans (hbb.mono (by omega))
 have hs := hsa.out
 have e0 := hcb 0
 have e1 := hcb 1
 rw [hs] at e0 e1 hfb
 simp at e0 e1
 exact ⟨wa, wb, hwa, hs, hwb, hide ⟨Grg.of hB, h.below hB lt, hN.grg (Grg.of hB), (hB.cell (p := ⟨0, 0, none⟩) (by show 0 < w.heap.size; omega)).trans hm, by omega, (kb.1 _ 0 hla).trans z0, (kb.1 _ 1 hla).trans z1, (kb.1 _ 2 hla).trans z2, (kb.1 _ 3 hla).trans z3, (kb.1 _ 4 hla).trans z4, (kb.1 _ 5 hla).trans z5, e0, e1, fun i => (kb.2 _ i hla).trans (hfa i), hfb⟩⟩
end Go.Proofs.YtbjokgnnklcbcaaGreatDoor
/-! Plain: what the document's reader of a network does, step by step; it answers as the other one. -/
namespace Go.Proofs.YtbjokgnnklcbcaaGreatDoor
open Go.Lib
/-- A reader: the tokens that are left, the network so far, a fault. -/
structure Rf where
 l : List Tk
 n : Net
 bad : Option (Int × Nat)
abbrev tk9 : Tk := ⟨9, [], 0, 0, 0⟩
def nowF (r : Rf) : Tk := if r.bad.isSome then tk9 else headT r.l
def failF (so : Bool) (t : Tk) (e : Int) (r : Rf) : Rf := if !so && !r.bad.isSome then ⟨r.l, r.n, some (e, t.pl)⟩ else r
def takeF (r : Rf) : Rf := if !r.bad.isSome && (nowF r).kind != 0 then ⟨r.l.tail, r.n, r.bad⟩ else r
def hasF (s : List UInt8) (r : Rf) : Bool := ((nowF r).kind == 1 || (nowF r).kind == 3) && (nowF r).s == s
def wantF (s : List UInt8) (r : Rf) : Rf := failF (hasF s r) (nowF r) 4 (takeF r)
def nameF (r : Rf) : Tk × Rf := (nowF r, failF (nmT (nowF r)) (nowF r) 4 (takeF r))
def portF (r : Rf) : Tk × Int × Rf :=
 let t := nowF r
 let r3 := failF (decide (1 ≤ t.n ∧ t.n ≤ 511)) t 5 (failF (t.w == 0) t 10 (failF (t.kind == 2) t 4 (takeF r)))
 (t, if r3.bad.isSome then 0 else (t.n : Int), r3)
/-- One round of ports. -/
def port1F (out : List Int) (r : Rf) : List Int × Rf :=
 let x := portF (failF (decide (out.length < 8) || (nowF r).kind != 2) (nowF r) 5 r)
 (out ++ [x.2.1], wantF bSemi (failF (!decide (x.2.1 ∈ out)) x.1 8 x.2.2))
def portsF : Nat → List Int → Rf → List Int × Rf
 | 0, out, r => (out, r)
 | f + 1, out, r => if !r.bad.isSome && !hasF bShut r then portsF f (port1F out r).1 (port1F out r).2 else (out, r)
/-- Behind a fault all stays the fault. -/
@[simp] theorem fail_some (so : Bool) (t : Tk) (e : Int) (l : List Tk) (n : Net) (b : Int × Nat) : failF so t e ⟨l, n, some b⟩ = ⟨l, n, some b⟩ := by simp [failF]
@[simp] theorem take_some (l : List Tk) (n : Net) (b : Int × Nat) : takeF ⟨l, n, some b⟩ = ⟨l, n, some b⟩ := by simp [takeF]
@[simp] theorem now_some (l : List Tk) (n : Net) (b : Int × Nat) : nowF ⟨l, n, some b⟩ = tk9 := by simp [nowF]
@[simp] theorem has_some (s : List UInt8) (l : List Tk) (n : Net) (b : Int × Nat) : hasF s ⟨l, n, some b⟩ = false := by simp [hasF]
@[simp] theorem want_some (s : List UInt8) (l : List Tk) (n : Net) (b : Int × Nat) : wantF s ⟨l, n, some b⟩ = ⟨l, n, some b⟩ := by simp [wantF]
@[simp] theorem port_some (l : List Tk) (n : Net) (b : Int × Nat) : portF ⟨l, n, some b⟩ = (tk9, 0, ⟨l, n, some b⟩) := by simp [portF]
@[simp] theorem name_some (l : List Tk) (n : Net) (b : Int × Nat) : nameF ⟨l, n, some b⟩ = (tk9, ⟨l, n, some b⟩) := by simp [nameF]
theorem ports_some (f : Nat) (out : List Int) (l : List Tk) (n : Net) (b : Int × Nat) : portsF f out ⟨l, n, some b⟩ = (out, ⟨l, n, some b⟩) := by cases f <;> simp [portsF]
end Go.Proofs.YtbjokgnnklcbcaaGreatDoor

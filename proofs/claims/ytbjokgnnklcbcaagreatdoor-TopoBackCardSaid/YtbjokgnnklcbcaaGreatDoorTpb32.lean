import Derived.Test.YtbjokgnnklcbcaaGreatDoorTpb26
import Derived.Test.YtbjokgnnklcbcaaGreatDoorTpb31
set_option linter.all false
/-! The document's layer 13: Read. -/
namespace Go.Proofs.YtbjokgnnklcbcaaGreatDoor
open Go.RowKit
attribute [local go_sem ↓] app_eq
theorem lexR_ne' {l : List UInt8} {x : Int × Nat} (h : lexR l = .error x) : x.1 ≠ 0 := by
 have key : ∀ (fu k : Nat) (l : List UInt8) (x : Int × Nat), lexL fu k l = .error x → x.1 ≠ 0 := by
  intro fu
  induction fu with
  | zero => intro k l x h; cases h
  | succ fu ih =>
   intro k l x h
   unfold lexL at h
   simp only at h
   split at h
   ·cases h
   ·split at h
    ·rename_i e he
     injection h with h
     subst h
     exact oneR_err he
    ·split at h
     ·rename_i he
      injection h with h
      subst h
      exact ih _ _ _ he
     ·cases h
 unfold lexR at h
 split at h
 ·injection h with h; subst h; decide
 ·exact key _ _ _ _ h
theorem NetN.far {w : World} {g q i : Nat} {v1 v2 v3 : Value} {n : Net} (h : NetN w g v1 v2 v3 n) (hq : q ≤ g) (u : Value) : NetN (w.setCell ⟨q, i, none⟩ u) g v1 v2 v3 n := by
 obtain ⟨vs, h1, h2, h3⟩ := h.own1
 have hG := Grg.set q w i u
 exact ⟨h.size, own_grg h.own0 hG (by omega), own_grg h.own2 hG (by omega), vs, h1, own_grg h2 hG (by omega), fun i v p hv hp => own_grg (h3 i v p hv hp) hG (by omega)⟩
theorem setB {w : World} {g q : Nat} {v1 v2 v3 : Value} {n : Net} (h : NetN w g v1 v2 v3 n) (hq : q ≤ g) (hq1 : q + 1 < g) (a b c d e f : Value) : NetN ((((((w.setCell ⟨q, 0, none⟩ a).setCell ⟨q, 1, none⟩ b).setCell ⟨q, 2, none⟩ c).setCell ⟨q + 1, 0, none⟩ d).setCell ⟨q + 1, 1, none⟩ e).setCell ⟨q + 1, 2, none⟩ f) g v1 v2 v3 n :=
 (((((h.far hq a).far hq b).far hq c).far (by omega) d).far (by omega) e).far (by omega) f
/-- What Read holds: two boxes for its results, and the reader. -/
structure RdS (w W : World) (g : Nat) (R : Rf) (v1 v2 v3 : Value) : Prop where
 bel : Below w.heap.size w W
 rd : RfB W g R v1 v2 v3
 net : NetN W g v1 v2 v3 R.n
 z0 : W.cell? ⟨w.heap.size, 0, none⟩ = some (.slice none 0 0)
 z1 : W.cell? ⟨w.heap.size, 1, none⟩ = some (.slice none 0 0)
 z2 : W.cell? ⟨w.heap.size, 2, none⟩ = some (.slice none 0 0)
 e0 : W.cell? ⟨w.heap.size + 1, 0, none⟩ = some (.int .i64 0)
 e1 : W.cell? ⟨w.heap.size + 1, 1, none⟩ = some (.int .i64 0)
 e2 : W.cell? ⟨w.heap.size + 1, 2, none⟩ = some (.int .i64 0)
 fz : ∀ i, W.frozen? ⟨w.heap.size, i, none⟩ = false
 fe : ∀ i, W.frozen? ⟨w.heap.size + 1, i, none⟩ = false
theorem RdS.step {w W W' : World} {g : Nat} {R R' : Rf} {v1 v2 v3 v1' v2' v3' : Value} (h : RdS w W g R v1 v2 v3) (hg : w.heap.size + 1 < g) (hG : Below g W W') (hR : RfB W' g R' v1' v2' v3') (hN : NetN W' g v1' v2' v3' R'.n) : RdS w W' g R' v1' v2' v3' :=
 have kk := bcell' hG
 ⟨h.bel.trans (hG.mono (by omega)), hR, hN, (kk.1 _ 0 (by omega)).trans h.z0, (kk.1 _ 1 (by omega)).trans h.z1, (kk.1 _ 2 (by omega)).trans h.z2, (kk.1 _ 0 hg).trans h.e0, (kk.1 _ 1 hg).trans h.e1, (kk.1 _ 2 hg).trans h.e2, fun i => (kk.2 _ i (by omega)).trans (h.fz i), fun i => (kk.2 _ i hg).trans (h.fe i)⟩
theorem RdS.grg {w W W' : World} {g : Nat} {R R' : Rf} {v1 v2 v3 : Value} (h : RdS w W g R v1 v2 v3) (hg : w.heap.size + 1 < g) (hG : Grg g W W') (hR : RfB W' g R' v1 v2 v3) (hn : R'.n = R.n) : RdS w W' g R' v1 v2 v3 :=
 h.step hg (hG.below (Nat.le_refl _) (Nat.le_of_lt h.rd.lt)) hR (hn ▸ h.net.grg hG)
end Go.Proofs.YtbjokgnnklcbcaaGreatDoor

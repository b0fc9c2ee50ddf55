import Derived.Test.YtcgmkjpgaigmfaaGreatOnc28
set_option linter.all false
/-! Layer 4: MayExpr: the closure that asks each expression. -/
namespace Go.Proofs.YtcgmkjpgaigmfaaGreat
open Go.RowKit
/-- What the closure holds: the map of forms, itself; and what lies at the foot of memory. -/
structure Kin (bk bf bm : Nat) (m : Int) (B : Nat) (w : World) : Prop where
  k : w.cell? ⟨bk, 0, none⟩ = some (.map (some bm))
  f : w.cell? ⟨bf, 0, none⟩ = some (.func (.func 147) #[] #[.pointer (some ⟨bk, 0, none⟩), .pointer (some ⟨bf, 0, none⟩)])
  mp : FmS w bm (formRows 26)
  z : w.cell? ⟨0, 0, none⟩ = some (.int .i64 m)
  lt : bk < B ∧ bf < B ∧ bm < B ∧ 0 < B
theorem Kin.below {bk bf bm : Nat} {m : Int} {B : Nat} {w w' : World} (h : Kin bk bf bm m B w) (hb : Below B w w') : Kin bk bf bm m B w' :=
  ⟨(hb.cell (p := ⟨bk, 0, none⟩) h.lt.1).trans h.k, (hb.cell (p := ⟨bf, 0, none⟩) h.lt.2.1).trans h.f, h.mp.below hb h.lt.2.2.1, (hb.cell (p := ⟨0, 0, none⟩) h.lt.2.2.2).trans h.z, h.lt⟩
def MayIs (bk bf bm : Nat) (m : Int) (B : Nat) (e : Ex) : Prop := ∀ (cs : List Value) (w : World) (n : Nat), n ≤ 16 → B ≤ w.heap.size → Kin bk bf bm m B w → rEx w B cs e →
  Calls Tryz.prog 147 #[.agg cs.toArray, .int .i64 (n : Int), .pointer (some ⟨bk, 0, none⟩), .pointer (some ⟨bf, 0, none⟩)] w fun r w' => r = .returned (.bool (mayN e n)) ∧ Below w.heap.size w w'
theorem enters_may1 : ∀ args w, (callFunc 147 args).run Tryz.prog w = .ok (.enter 147 args) w := enters_of Tryz.func147 (by kernel_rfl) rfl
theorem enters_may11 : ∀ args w, (callFunc 151 args).run Tryz.prog w = .ok (.enter 151 args) w := enters_of Tryz.func151 (by kernel_rfl) rfl
set_option maxHeartbeats 1000000 in
theorem may11_any {bk bf bm : Nat} {m : Int} {B : Nat} {e : Ex} (ih : MayIs bk bf bm m B e) (cs : List Value) (w : World) (n bl : Nat) (hn : n ≤ 15) (hB : B ≤ w.heap.size) (hK : Kin bk bf bm m B w) (he : rEx w B cs e)
    (hl : w.cell? ⟨bl, 0, none⟩ = some (.int .i64 ((n : Int) + 1))) :
    Calls Tryz.prog 151 #[.agg cs.toArray, .pointer (some ⟨bf, 0, none⟩), .pointer (some ⟨bl, 0, none⟩)] w fun r w' => r = .returned (.bool (mayN e n)) ∧ Below w.heap.size w w' := by
  have he' := he
  obtain ⟨op, lit, head, name, hi, lo, args⟩ := e
  obtain ⟨A, cap, rfl, -, -, -, -, -, -, hs⟩ := RE.inv he
  have hla := hs.len
  obtain ⟨wa, hwa, hsa, hba, hca, -⟩ := box1 w #[.int .u8 op, .int .i64 lit.1, .int .u64 lit.2.1, .int .u64 lit.2.2, .string head, .string name, .int .i64 hi, .int .i64 lo, .slice A args.length cap] 68
  have hbl : bl < w.heap.size := World.block_lt_of_cell? w _ hl
  have hX := hide (ih _ wa n (by omega) (by omega) (hK.below (hba.mono hB)) (sta_ex.keep he' fun q hq => (hba.mono hB).cell hq))
  have l0 : wa.cell? ⟨bl, 0, none⟩ = some (.int .i64 ((n : Int) + 1)) := (hba.cell (p := ⟨bl, 0, none⟩) hbl).trans hl
  have f0 : wa.cell? ⟨bf, 0, none⟩ = some _ := (hK.below (hba.mono hB)).f
  have y0 : wa.cell? ⟨w.heap.size, 0, none⟩ = some (.int .u8 op) := hca 0
  have y1 : wa.cell? ⟨w.heap.size, 1, none⟩ = some (.int .i64 lit.1) := hca 1
  have y2 : wa.cell? ⟨w.heap.size, 2, none⟩ = some (.int .u64 lit.2.1) := hca 2
  have y3 : wa.cell? ⟨w.heap.size, 3, none⟩ = some (.int .u64 lit.2.2) := hca 3
  have y4 : wa.cell? ⟨w.heap.size, 4, none⟩ = some (.string head) := hca 4
  have y5 : wa.cell? ⟨w.heap.size, 5, none⟩ = some (.string name) := hca 5
  have y6 : wa.cell? ⟨w.heap.size, 6, none⟩ = some (.int .i64 hi) := hca 6
  have y7 : wa.cell? ⟨w.heap.size, 7, none⟩ = some (.int .i64 lo) := hca 7
  have y8 : wa.cell? ⟨w.heap.size, 8, none⟩ = some (.slice A args.length cap) := hca 8
  have eg := enters_may1
  show Calls _ _ #[.agg #[.int .u8 op, .int .i64 lit.1, .int .u64 lit.2.1, .int .u64 lit.2.2, .string head, .string name, .int .i64 hi, .int .i64 lo, .slice A args.length cap], .pointer (some ⟨bf, 0, none⟩), .pointer (some ⟨bl, 0, none⟩)] _ _
  replace hba := hide hba
  have hle : w.heap.size ≤ wa.heap.size := by omega
  generalize mayN (.mk op lit head name hi lo args) n = z at hX ⊢
  clear hca hs hl he he' ih hK
  go_enter Tryz.func151, Tryz.ntmps151
  go_wp2_with (go_at_fn 147; refine hX.out.mono ?_; rintro e w1 ⟨rfl, hb1⟩)
  go_ret
  exact ⟨rfl, hba.out.trans (hb1.mono hle)⟩
end Go.Proofs.YtcgmkjpgaigmfaaGreat

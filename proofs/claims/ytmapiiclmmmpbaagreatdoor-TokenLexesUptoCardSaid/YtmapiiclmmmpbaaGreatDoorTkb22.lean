import Derived.Test.YtmapiiclmmmpbaaGreatDoorTkb21
import Derived.Deep.RegionWith
set_option linter.all false
/-! The document's numbers: of digits. -/
namespace Go.Proofs.YtmapiiclmmmpbaaGreatDoor
open Go.RowKit
/-- A digit of a base; 99: it is none. -/
def digR (hex : Bool) (c : Int) : Int := if 48 ≤ c ∧ c ≤ 57 then c - 48 else if hex then (if 97 ≤ c ∧ c ≤ 102 then c - 87 else if 65 ≤ c ∧ c ≤ 70 then c - 55 else 99) else 99
set_option maxHeartbeats 2000000 in
theorem digit01_any (hex : Bool) (c : Int) (w : World) (h0 : 0 ≤ c) (h1 : c < 256) : Calls Tryz.prog 67 #[.int .u8 c, .int .u64 (baseN hex : Int)] w fun e w' => e = .returned (.int .u64 (digR hex c)) ∧ w' = w := by
 obtain ⟨d, hd⟩ : ∃ d, d = digR hex c := ⟨_, rfl⟩
 rw [← hd]
 unfold digR at hd
 replace hd := hide hd
 cases hex
 all_goals
  go_enter Tryz.func67, Tryz.ntmps67
  go_wp2
  all_goals
   go_ret
   exact ⟨congrArg (fun x => Ending.returned (.int .u64 x)) (by
    have hq := hd.out
    simp only [baseN, if_true, Bool.false_eq_true, if_false] at *
    (repeat' split at hq) <;> omega), rfl⟩
set_option maxHeartbeats 400000 in
theorem of01_any (n : Int) (w : World) : Calls Tryz.prog 68 #[.int .u64 n] w fun e w' => e = .returned (.agg #[.int .u64 0, .int .u64 n]) ∧ Below w.heap.size w w' := by
 obtain ⟨wa, hwa, hsa, hba, hca, hfa⟩ := box1 w #[.int .u64 0, .int .u64 0] 35
 have z0 : wa.cell? ⟨w.heap.size, 0, none⟩ = some (.int .u64 0) := hca 0
 have z1 : wa.cell? ⟨w.heap.size, 1, none⟩ = some (.int .u64 0) := hca 1
 have f0 := hfa 0
 have f1 := hfa 1
 have hlt : w.heap.size < wa.heap.size := by omega
 replace hsa := hide hsa
 go_enter Tryz.func68, Tryz.ntmps68
 go_wp2
 exact bodyPost_ret (v := .agg #[.int .u64 0, .int .u64 n]) (by simp [results, Tryz.results68, go_sem, z0, z1]) rfl ⟨rfl, (hba.setCell (Nat.le_refl _) _).setCell (Nat.le_refl _) _⟩
set_option maxHeartbeats 2000000 in
theorem sum01_any (X Y : Nat) (w : World) (hX : X < two128) (hY : Y < two128) : Calls Tryz.prog 69 #[n128 X, n128 Y] w fun e w' => e = .returned (.tuple #[n128 ((X + Y) % two128), .bool (decide (two128 ≤ X + Y))]) ∧ Below w.heap.size w w' := by
 have hA := hide (fun W => add01_any X Y W hX hY)
 have hZ : (X + Y) % two128 < two128 := Nat.mod_lt _ (by decide)
 have hlt : decide (two128 ≤ X + Y) = decide ((X + Y) % two128 < X) := by
  unfold two128 at *
  rw [decide_eq_decide]; omega
 rw [hlt]
 obtain ⟨Z, hZe⟩ : ∃ Z, Z = (X + Y) % two128 := ⟨_, rfl⟩
 rw [← hZe] at hA hZ ⊢
 have hC0 := hide (fun W => cmp01_any ((Z / 18446744073709551616 : Nat) : Int) ((Z % 18446744073709551616 : Nat) : Int) ((X / 18446744073709551616 : Nat) : Int) ((X % 18446744073709551616 : Nat) : Int) W ⟨by omega, by unfold two128 at hZ; omega⟩ ⟨by omega, by omega⟩ ⟨by omega, by unfold two128 at hX; omega⟩ ⟨by omega, by omega⟩)
 have e1 : ((Z / 18446744073709551616 : Nat) : Int) * 18446744073709551616 + ((Z % 18446744073709551616 : Nat) : Int) = (Z : Int) := by omega
 have e2 : ((X / 18446744073709551616 : Nat) : Int) * 18446744073709551616 + ((X % 18446744073709551616 : Nat) : Int) = (X : Int) := by omega
 rw [e1, e2] at hC0
 clear e1 e2 hX hY hlt
 obtain ⟨zh, hzh⟩ : ∃ zh, zh = ((Z / 18446744073709551616 : Nat) : Int) := ⟨_, rfl⟩
 obtain ⟨zl, hzl⟩ : ∃ zl, zl = ((Z % 18446744073709551616 : Nat) : Int) := ⟨_, rfl⟩
 unfold n128 at hA ⊢
 rw [← hzh, ← hzl] at hA hC0 ⊢
 have hlt : decide (Z < X) = decide (cmpN (Z : Int) (X : Int) < 0) := by
  rw [decide_eq_decide]
  unfold cmpN
  split
  ·omega
  ·split <;> omega
 rw [hlt]
 generalize cmpN (Z : Int) (X : Int) = cm at hC0
 clear hlt hzh hzl hZe hZ
 generalize ((X / 18446744073709551616 : Nat) : Int) = xh at hA hC0
 generalize ((X % 18446744073709551616 : Nat) : Int) = xl at hA hC0
 generalize ((Y / 18446744073709551616 : Nat) : Int) = yh at hA
 generalize ((Y % 18446744073709551616 : Nat) : Int) = yl at hA
 obtain ⟨wa, hwa, hsa, hba, hca, -⟩ := box1 w #[.int .u64 xh, .int .u64 xl] 35
 obtain ⟨wb0, hwb0, hsb0, hbb0, hcb0, -⟩ := box1 wa #[.int .u64 yh, .int .u64 yl] 35
 obtain ⟨wb, hwb, hsb, hbb, hcb, hfb⟩ := box1 wb0 #[.int .u64 0, .int .u64 0] 35
 have y0 : wb.cell? ⟨w.heap.size, 0, none⟩ = some (.int .u64 xh) := (hbb.cell (p := ⟨w.heap.size, 0, none⟩) (by show w.heap.size < _; omega)).trans ((hbb0.cell (p := ⟨w.heap.size, 0, none⟩) (by show w.heap.size < _; omega)).trans (hca 0))
 have y1 : wb.cell? ⟨w.heap.size, 1, none⟩ = some (.int .u64 xl) := (hbb.cell (p := ⟨w.heap.size, 1, none⟩) (by show w.heap.size < _; omega)).trans ((hbb0.cell (p := ⟨w.heap.size, 1, none⟩) (by show w.heap.size < _; omega)).trans (hca 1))
 have y2 : wb.cell? ⟨w.heap.size + 1, 0, none⟩ = some (.int .u64 yh) := (hbb.cell (p := ⟨w.heap.size + 1, 0, none⟩) (by show w.heap.size + 1 < _; omega)).trans (by rw [← hsa]; exact hcb0 0)
 have y3 : wb.cell? ⟨w.heap.size + 1, 1, none⟩ = some (.int .u64 yl) := (hbb.cell (p := ⟨w.heap.size + 1, 1, none⟩) (by show w.heap.size + 1 < _; omega)).trans (by rw [← hsa]; exact hcb0 1)
 have hs2 : wb0.heap.size = w.heap.size + 1 + 1 := by omega
 have z0 : wb.cell? ⟨w.heap.size + 1 + 1, 0, none⟩ = some (.int .u64 0) := by rw [← hs2]; exact hcb 0
 have z1 : wb.cell? ⟨w.heap.size + 1 + 1, 1, none⟩ = some (.int .u64 0) := by rw [← hs2]; exact hcb 1
 have f0 : ∀ i, wb.frozen? ⟨w.heap.size + 1 + 1, i, none⟩ = false := by rw [← hs2]; exact hfb
 have hbw := hide (hba.trans ((hbb0.trans (hbb.mono (by omega))).mono (by omega)))
 have hl3 : w.heap.size + 1 + 1 < wb.heap.size := by omega
 have hl1 : w.heap.size < wb.heap.size := by omega
 clear hca hcb0 hcb hba hbb0 hbb hfb hs2
 replace hsb := hide hsb
 go_enter Tryz.func69, Tryz.ntmps69
 go_upto_region 2 with (go_at_call 96; refine (hA.out _).mono ?_; rintro e w1 ⟨rfl, hb1⟩; obtain ⟨w2, hw2, hs2, hb2, hc2, hf2⟩ := box1 w1 #[.int .u64 zh, .int .u64 zl] 35; have kb1 := bcell' hb1; have q1 := Nat.lt_of_lt_of_le hl1 hb1.size; have q3 := Nat.lt_of_lt_of_le hl3 hb1.size; have v0 := hc2 0; have v1 := hc2 1; replace hs2 := hide hs2)
 have hs2' := hs2.out
 have hb12 := hb1.trans (hb2.mono hb1.size)
 have kb2 := bcell' hb12
 have p1 := Nat.lt_of_lt_of_le hl1 hb12.size
 have p3 := Nat.lt_of_lt_of_le hl3 hb12.size
 have p4 : w1.heap.size < w2.heap.size := by omega
 have x0 := (kb2.1 _ 0 hl1).trans y0
 have x1 := (kb2.1 _ 1 hl1).trans y1
 have k0 := (kb2.1 _ 0 hl3).trans z0
 have k1 := (kb2.1 _ 1 hl3).trans z1
 have g0 := (kb2.2 _ 0 hl3).trans (f0 0)
 have g1 := (kb2.2 _ 1 hl3).trans (f0 1)
 have hBw := hide (hbw.out.trans (hb12.mono (Nat.le_of_lt hl1)))
 have hg := gcell w2
 simp at v0 v1
 clear hs2' kb1 kb2 hb12 hb1 hb2 hc2 hf2 y0 y1 y2 y3 z0 z1 f0 hwa hwb0 hwb hsa hsb0 hw2 q1 q3
 have hBd : Below w.heap.size w w2.drew := Below.drew hBw.out
 have hB3 := hide (fun W (hW : Below w2.drew.heap.size w2.drew W) => hBd.trans (hW.mono hBd.size))
 clear hg
 go_region_with (go_at_call 97; refine (hC0.out _).mono ?_; rintro e w3 ⟨rfl, hb3⟩; have kb3 := bcell' hb3; have r3 := Nat.lt_of_lt_of_le p3 hb3.size; have r4 := Nat.lt_of_lt_of_le p4 hb3.size; have k0' := (kb3.1 _ 0 p3).trans k0; have k1' := (kb3.1 _ 1 p3).trans k1; have g0' := (kb3.2 _ 0 p3).trans g0; have g1' := (kb3.2 _ 1 p3).trans g1; have v0' := (kb3.1 _ 0 p4).trans v0; have v1' := (kb3.1 _ 1 p4).trans v1)
 all_goals
  go_wp2
  exact bodyPost_ret (v := .tuple #[.agg #[.int .u64 zh, .int .u64 zl], .bool _]) (by simp [results, Tryz.results69, go_sem, k0', k1']) rfl ⟨rfl, ((hB3.out _ hb3).setCell (by show w.heap.size ≤ w.heap.size + 1 + 1; omega) _).setCell (by show w.heap.size ≤ w.heap.size + 1 + 1; omega) _⟩
end Go.Proofs.YtmapiiclmmmpbaaGreatDoor

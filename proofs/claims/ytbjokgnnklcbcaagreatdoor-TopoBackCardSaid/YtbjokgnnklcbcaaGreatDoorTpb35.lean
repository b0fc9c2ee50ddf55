import Derived.Test.YtbjokgnnklcbcaaGreatDoorTpb26
import Derived.Test.YtbjokgnnklcbcaaGreatDoorTpb34
set_option linter.all false
/-! Layer 13: plain: the page's examples. -/
namespace Go.Proofs.YtbjokgnnklcbcaaGreatDoor
open Go.RowKit
def k13a : List UInt8 := [115, 119, 105, 116, 99, 104, 32, 97, 32, 123, 32, 49, 59, 32, 50, 59, 32, 125, 32, 115, 119, 105, 116, 99, 104, 32, 98, 32, 123, 32, 49, 59, 32, 125, 32, 108, 105, 110, 107, 32, 97, 58, 50, 32, 98, 58, 49, 59]
def k13b : List UInt8 := [115, 119, 105, 116, 99, 104, 32, 97, 32, 123, 32, 49, 59, 32, 49, 59, 32, 125]
def k13n : Net := ⟨[⟨#[97]⟩, ⟨#[98]⟩], [[1, 2], [1]], [((0, 2), (1, 1))]⟩
theorem readK1 : readT k13a = .ok k13n := by kernel_rfl
theorem readK2 : readT k13b = .error (8, 14) := by kernel_rfl
theorem placeK2 : placeR (k13b.take 14) = (1, 15) := by kernel_rfl
theorem nextK : nextB k13n (0, 2) = ((1, 1), true, true) := by kernel_rfl
end Go.Proofs.YtbjokgnnklcbcaaGreatDoor
/-! Layer 13: the page's examples. -/
namespace Go.Proofs.YtbjokgnnklcbcaaGreatDoor
open Go.RowKit
set_option maxRecDepth 100000 in
set_option maxHeartbeats 8000000 in
theorem known13_any (hSo : SortC) (w : World) (mm : Int) (hV : VarS w) (hm : w.cell? ⟨0, 0, none⟩ = some (.int .i64 mm)) (h0 : 0 < w.heap.size) :
  Calls Tryz.prog 5 #[] w fun e w' => e = .returned (.bool true) ∧ Below w.heap.size w w' := by
 have hT := hide (fun (s : ByteArray) (W : World) (hs : s.size ≤ 2000000) (hW : Below w.heap.size w W) => tread_any hSo s W mm hs (hV.below hW (Nat.le_refl _)) (((bcell' hW).1 0 0 h0).trans hm) (Nat.lt_of_lt_of_le h0 hW.size))
 have hK1 := hide ((hT.out ⟨#[115, 119, 105, 116, 99, 104, 32, 97, 32, 123, 32, 49, 59, 32, 50, 59, 32, 125, 32, 115, 119, 105, 116, 99, 104, 32, 98, 32, 123, 32, 49, 59, 32, 125, 32, 108, 105, 110, 107, 32, 97, 58, 50, 32, 98, 58, 49, 59]⟩ w (by decide) (Below.refl _ _)).mono fun e w' h => (⟨by
  have h1 := h.1
  unfold ReadE at h1
  rw [show (⟨#[115, 119, 105, 116, 99, 104, 32, 97, 32, 123, 32, 49, 59, 32, 50, 59, 32, 125, 32, 115, 119, 105, 116, 99, 104, 32, 98, 32, 123, 32, 49, 59, 32, 125, 32, 108, 105, 110, 107, 32, 97, 58, 50, 32, 98, 58, 49, 59]⟩ : ByteArray).data.toList = k13a from rfl, readK1] at h1
  exact h1, h.2⟩ : (∃ A1 A2 A3 c1 c2 c3, e = .returned (.tuple #[.agg #[.slice A1 2 c1, .slice A2 2 c2, .slice A3 1 c3], .agg #[.int .i64 0, .int .i64 0, .int .i64 0]]) ∧ NetS w' w'.heap.size A1 A2 A3 k13n) ∧ Below w.heap.size w w'))
 have hK2 := hide (fun W hW => (hT.out ⟨#[115, 119, 105, 116, 99, 104, 32, 97, 32, 123, 32, 49, 59, 32, 49, 59, 32, 125]⟩ W (by decide) hW).mono fun e w' h => (⟨by
  have h1 := h.1
  unfold ReadE at h1
  rw [show (⟨#[115, 119, 105, 116, 99, 104, 32, 97, 32, 123, 32, 49, 59, 32, 49, 59, 32, 125]⟩ : ByteArray).data.toList = k13b from rfl, readK2] at h1
  simp only [faultV, placeK2] at h1
  exact h1, h.2⟩ : e = .returned (.tuple #[.agg #[.slice none 0 0, .slice none 0 0, .slice none 0 0], .agg #[.int .i64 8, .int .i64 1, .int .i64 15]]) ∧ Below W.heap.size W w'))
 clear hT
 go_enter Tryz.func5, Tryz.ntmps5
 go_upto_region 2 with (go_at_call 6; refine hK1.out.mono ?_; rintro e w1 ⟨⟨A1, A2, A3, c1, c2, c3, rfl, hN⟩, hb1⟩)
 obtain ⟨wa, hwa, hsa, hba, hca, -⟩ := box1 w1 #[.slice A1 2 c1, .slice A2 2 c2, .slice A3 1 c3] 27
 obtain ⟨wb, hwb, hsb, hbb, hcb, -⟩ := box1 wa #[.int .i64 0, .int .i64 0, .int .i64 0] 32
 rw [hwa, hwb]
 rw [hsa] at hcb
 have hB2 := hba.trans (hbb.mono (by omega))
 have x0 := ((bcell' hbb).1 w1.heap.size 0 (by omega)).trans (hca 0)
 have x1 := ((bcell' hbb).1 w1.heap.size 1 (by omega)).trans (hca 1)
 have x2 := ((bcell' hbb).1 w1.heap.size 2 (by omega)).trans (hca 2)
 have f0 := hcb 0
 have f1 := hcb 1
 have f2 := hcb 2
 simp at x0 x1 x2 f0 f1 f2
 have hN2 := hN.below hB2
 have hK2' := hide (hK2.out wb (hb1.trans (hB2.mono hb1.size)))
 have hl1 : w1.heap.size < wb.heap.size := by omega
 have hl2 : w1.heap.size + 1 < wb.heap.size := by omega
 have hB2' := hide (hb1.trans (hB2.mono hb1.size))
 replace hsa := hide hsa
 replace hsb := hide hsb
 clear hca hcb hba hbb hwa hwb hB2 hN hK2 hK1
 go_upto_region 3 with (go_at_call 6; refine hK2'.out.mono ?_; rintro e w3 ⟨rfl, hb3⟩)
 obtain ⟨wc, hwc, hsc, hbc, hcc, -⟩ := box1 w3 #[.slice none 0 0, .slice none 0 0, .slice none 0 0] 27
 obtain ⟨wd, hwd, hsd, hbd, hcd, -⟩ := box1 wc #[.int .i64 8, .int .i64 1, .int .i64 15] 32
 rw [hwc, hwd]
 rw [hsc] at hcd
 have hB4 := hb3.trans ((hbc.trans (hbd.mono (by omega))).mono hb3.size)
 have kk := bcell' hB4
 replace x0 := (kk.1 _ 0 hl1).trans x0
 replace x1 := (kk.1 _ 1 hl1).trans x1
 replace x2 := (kk.1 _ 2 hl1).trans x2
 replace f0 := (kk.1 _ 0 hl2).trans f0
 replace f1 := (kk.1 _ 1 hl2).trans f1
 replace f2 := (kk.1 _ 2 hl2).trans f2
 have g0 := hcd 0
 have g1 := hcd 1
 have g2 := hcd 2
 simp at g0 g1 g2
 have hz3 := hb3.size
 have hN4 : NetS wd w1.heap.size A1 A2 A3 k13n := hN2.keep fun q hq => hB4.cell (Nat.lt_trans hq hl1)
 have hNx := hide ((tnext_any k13n A1 A2 A3 c1 c2 c3 0 2 wd (hN4.more (by omega))).mono fun e w' h => (⟨h.1.trans (by rw [nextK]), h.2⟩ : e = .returned (.tuple #[.agg #[.int .i64 1, .int .i64 1], .bool true, .bool true]) ∧ Below wd.heap.size wd w'))
 have hl3 : w1.heap.size < wd.heap.size := by omega
 have hl4 : w1.heap.size + 1 < wd.heap.size := by omega
 have hl5 : w3.heap.size + 1 < wd.heap.size := by omega
 have hB5 := hide (hB2'.out.trans (hB4.mono hB2'.out.size))
 replace hsc := hide hsc
 replace hsd := hide hsd
 clear kk hcc hcd hbc hbd hwc hwd hB4 hN2 hN4 hK2' hb3 hl1 hl2 hB2' hz3
 go_upto_region 4 with (go_at_call 13; refine hNx.out.mono ?_; rintro e w5 ⟨rfl, hb5⟩)
 obtain ⟨we, hwe, hse, hbe, hce, -⟩ := box1 w5 #[.int .i64 1, .int .i64 1] 41
 rw [hwe]
 have hB6 := hb5.trans (hbe.mono hb5.size)
 have kk := bcell' hB6
 replace f0 := (kk.1 _ 0 hl4).trans f0
 replace f1 := (kk.1 _ 1 hl4).trans f1
 replace f2 := (kk.1 _ 2 hl4).trans f2
 replace g0 := (kk.1 _ 0 hl5).trans g0
 replace g1 := (kk.1 _ 1 hl5).trans g1
 replace g2 := (kk.1 _ 2 hl5).trans g2
 have e0 := hce 0
 have e1 := hce 1
 simp at e0 e1
 have hfin := hide (hB5.out.trans (hB6.mono hB5.out.size))
 clear kk hce hbe hb5 hB6 x0 x1 x2
 go_wp2
 go_ret
 exact ⟨rfl, hfin.out⟩
end Go.Proofs.YtbjokgnnklcbcaaGreatDoor

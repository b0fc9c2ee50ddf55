import Derived.Test.YtbjokgnnklcbcaaGreatDoorTpr36
import Derived.Test.YtbjokgnnklcbcaaGreatDoorTpr18
set_option linter.all false
/-! Layer 13: the law TopoReads. -/
namespace Go.Proofs.YtbjokgnnklcbcaaGreatDoor
open Go.RowKit
theorem same13 (n : Net) : sameB n n = true := by simp [sameB]
theorem netS_nil (w : World) : NetS w w.heap.size none none none emptyN := by
 obtain ⟨A1, A2, A3, c1, c2, c3, e1, e2, e3, h⟩ := (NetN.nil_ w 0).netS
 injection e1 with e1 _ _
 injection e2 with e2 _ _
 injection e3 with e3 _ _
 rw [← e1, ← e2, ← e3] at h
 exact h
set_option maxRecDepth 100000 in
set_option maxHeartbeats 8000000 in
theorem toporeads_any (hSo : SortC) (s : ByteArray) (w : World) (mm : Int) (hs : s.size ≤ maxLen) (hV : VarS w) (hm : w.cell? ⟨0, 0, none⟩ = some (.int .i64 mm)) (h0 : 0 < w.heap.size) :
  Calls Tryz.prog 3 #[.string s] w fun e w' => e = .returned (.bool true) ∧ Below w.heap.size w w' := by
 have hKn := hide (fun (W : World) (hW : Below w.heap.size w W) => known13_any hSo W mm (hV.below hW (Nat.le_refl _)) (((bcell' hW).1 0 0 h0).trans hm) (Nat.lt_of_lt_of_le h0 hW.size))
 have hsl : s.size ≤ 9223372036854775807 := hs
 by_cases hbig : 2000 < s.size
 ·have h1 : (2000 : Int) < (s.size : Int) := by omega
  have hK := hide (hKn.out w (Below.refl _ _))
  clear hbig hKn
  go_enter Tryz.func3, Tryz.ntmps3
  go_wp2_with (go_at_call 5; refine hK.out.mono ?_; rintro e wk ⟨rfl, hbk⟩)
  go_ret
  exact ⟨rfl, hbk⟩
 ·have h1 : ¬ (2000 : Int) < (s.size : Int) := by omega
  have hT := tread_any hSo s w mm (by omega) hV hm h0
  have hR := hide (fun (W : World) => read13r s W (by omega))
  clear hbig
  unfold ReadE at hT hR
  cases hr : readT s.data.toList with
  | error x =>
   obtain ⟨n, k⟩ := x
   rw [hr] at hT hR
   simp only [faultV] at hT hR
   generalize (((placeR (s.data.toList.take k)).1 : Nat) : Int) = pl at hT hR
   generalize (((placeR (s.data.toList.take k)).2 : Nat) : Int) = pc at hT hR
   replace hT := hide hT
   clear hr
   go_enter Tryz.func3, Tryz.ntmps3
   go_upto_region 4 with (go_at_call 6; refine hT.out.mono ?_; rintro e w1 ⟨rfl, hb1⟩)
   obtain ⟨wa, hwa, hsa, hba, hca, -⟩ := box1 w1 #[.slice none 0 0, .slice none 0 0, .slice none 0 0] 27
   obtain ⟨wb, hwb, hsb, hbb, hcb, -⟩ := box1 wa #[.int .i64 n, .int .i64 pl, .int .i64 pc] 32
   rw [hwa, hwb]
   rw [hsa] at hcb
   have hB2 := hba.trans (hbb.mono (by omega))
   have x0 := ((bcell' hbb).1 w1.heap.size 0 (by omega)).trans (hca 0)
   have x1 := ((bcell' hbb).1 w1.heap.size 1 (by omega)).trans (hca 1)
   have x2 := ((bcell' hbb).1 w1.heap.size 2 (by omega)).trans (hca 2)
   have f0 := hcb 0
   have f1 := hcb 1
   have f2 := hcb 2
   simp at x0 x1 x2 f0 f1 f2
   have hB2' := hide (hb1.trans (hB2.mono hb1.size))
   have hl1 : w1.heap.size < wb.heap.size := by omega
   have hl2 : w1.heap.size + 1 < wb.heap.size := by omega
   replace hsa := hide hsa
   replace hsb := hide hsb
   clear hca hcb hba hbb hwa hwb hB2 hT hb1
   go_upto_region 5 with (go_at_call 7; refine (hR.out _).mono ?_; rintro e w3 ⟨rfl, hb3⟩)
   obtain ⟨wc, hwc, hsc, hbc, hcc, -⟩ := box1 w3 #[.slice none 0 0, .slice none 0 0, .slice none 0 0] 27
   obtain ⟨wd, hwd, hsd, hbd, hcd, -⟩ := box1 wc #[.int .i64 n, .int .i64 pl, .int .i64 pc] 32
   rw [hwc, hwd]
   rw [hsc] at hcd
   have hB4 := hb3.trans ((hbc.trans (hbd.mono (by omega))).mono hb3.size)
   have kk := bcell' hB4
   replace x0 := (kk.1 _ 0 hl1).trans x0
   replace x1 := (kk.1 _ 1 hl1).trans x1
   replace x2 := (kk.1 _ 2 hl1).trans x2
   replace f0 := (kk.1 _ 0 hl2).trans f0
   replace f1 := (kk.1 _ 1 hl2).trans f1
   replace f2 := (kk.1 _ 2 hl2).trans f2
   have y0 := ((bcell' hbd).1 w3.heap.size 0 (by omega)).trans (hcc 0)
   have y1 := ((bcell' hbd).1 w3.heap.size 1 (by omega)).trans (hcc 1)
   have y2 := ((bcell' hbd).1 w3.heap.size 2 (by omega)).trans (hcc 2)
   have g0 := hcd 0
   have g1 := hcd 1
   have g2 := hcd 2
   simp at y0 y1 y2 g0 g1 g2
   have hz3 := hb3.size
   have hSm := hide (show Calls Tryz.prog 8 #[.agg #[.slice none 0 0, .slice none 0 0, .slice none 0 0], .agg #[.slice none 0 0, .slice none 0 0, .slice none 0 0]] wd fun e w' => e = .returned (.bool true) ∧ Below wd.heap.size wd w' from (same_any emptyN emptyN none none none none none none 0 0 0 0 0 0 wd (netS_nil wd) (netS_nil wd)).mono fun e w' h => ⟨by rw [h.1, same13], h.2⟩)
   have hl3 : w1.heap.size < wd.heap.size := by omega
   have hl4 : w1.heap.size + 1 < wd.heap.size := by omega
   have hl5 : w3.heap.size < wd.heap.size := by omega
   have hl6 : w3.heap.size + 1 < wd.heap.size := by omega
   have hB5 := hide (hB2'.out.trans (hB4.mono hB2'.out.size))
   replace hsc := hide hsc
   replace hsd := hide hsd
   clear kk hcc hcd hbc hbd hwc hwd hB4 hb3 hl1 hl2 hB2' hz3 hR
   go_wp2_with (first
    | (go_at_call 8; refine hSm.out.mono ?_; rintro e w5 ⟨rfl, hb5⟩; have kq := bcell' hb5; replace f0 := (kq.1 _ 0 hl4).trans f0; replace f1 := (kq.1 _ 1 hl4).trans f1; replace f2 := (kq.1 _ 2 hl4).trans f2; replace g0 := (kq.1 _ 0 hl6).trans g0; replace g1 := (kq.1 _ 1 hl6).trans g1; replace g2 := (kq.1 _ 2 hl6).trans g2; clear kq; have hB6 := hB5.out.trans (hb5.mono hB5.out.size))
    | (go_at_call 5; refine (hKn.out _ hB6).mono ?_; rintro e w7 ⟨rfl, hb7⟩))
   go_ret
   exact ⟨rfl, hB6.trans (hb7.mono hB6.size)⟩
  | ok n =>
   rw [hr] at hT hR
   replace hT := hide (show Calls Tryz.prog 6 #[.string s] w fun e w' => (∃ A1 A2 A3 c1 c2 c3, e = .returned (.tuple #[.agg #[.slice A1 n.sw.length c1, .slice A2 n.ports.length c2, .slice A3 n.links.length c3], .agg #[.int .i64 0, .int .i64 0, .int .i64 0]]) ∧ NetS w' w'.heap.size A1 A2 A3 n) ∧ Below w.heap.size w w' from hT)
   replace hR := hide (fun (W : World) => show Calls Tryz.prog 7 #[.string s] W fun e w' => (∃ A1 A2 A3 c1 c2 c3, e = .returned (.tuple #[.agg #[.slice A1 n.sw.length c1, .slice A2 n.ports.length c2, .slice A3 n.links.length c3], .agg #[.int .i64 0, .int .i64 0, .int .i64 0]]) ∧ NetS w' w'.heap.size A1 A2 A3 n) ∧ Below W.heap.size W w' from hR.out W)
   clear hr
   go_enter Tryz.func3, Tryz.ntmps3
   go_upto_region 4 with (go_at_call 6; refine hT.out.mono ?_; rintro e w1 ⟨⟨A1, A2, A3, c1, c2, c3, rfl, hN⟩, hb1⟩)
   obtain ⟨wa, hwa, hsa, hba, hca, -⟩ := box1 w1 #[.slice A1 n.sw.length c1, .slice A2 n.ports.length c2, .slice A3 n.links.length c3] 27
   obtain ⟨wb, hwb, hsb, hbb, hcb, -⟩ := box1 wa #[.int .i64 0, .int .i64 0, .int .i64 0] 32
   rw [hwa, hwb]
   rw [hsa] at hcb
   have hB2 := hba.trans (hbb.mono (by omega))
   have x0 := ((bcell' hbb).1 w1.heap.size 0 (by omega)).trans (hca 0)
   have x1 := ((bcell' hbb).1 w1.heap.size 1 (by omega)).trans (hca 1)
   have x2 := ((bcell' hbb).1 w1.heap.size 2 (by omega)).trans (hca 2)
   have f0 := hcb 0
   have f1 := hcb 1
   have f2 := hcb 2
   simp at x0 x1 x2 f0 f1 f2
   have hB2' := hide (hb1.trans (hB2.mono hb1.size))
   have hN2 := hN.below hB2
   have hl1 : w1.heap.size < wb.heap.size := by omega
   have hl2 : w1.heap.size + 1 < wb.heap.size := by omega
   replace hsa := hide hsa
   replace hsb := hide hsb
   clear hca hcb hba hbb hwa hwb hB2 hT hb1 hN
   go_upto_region 5 with (go_at_call 7; refine (hR.out _).mono ?_; rintro e w3 ⟨⟨D1, D2, D3, d1, d2, d3, rfl, hM⟩, hb3⟩)
   obtain ⟨wc, hwc, hsc, hbc, hcc, -⟩ := box1 w3 #[.slice D1 n.sw.length d1, .slice D2 n.ports.length d2, .slice D3 n.links.length d3] 27
   obtain ⟨wd, hwd, hsd, hbd, hcd, -⟩ := box1 wc #[.int .i64 0, .int .i64 0, .int .i64 0] 32
   rw [hwc, hwd]
   rw [hsc] at hcd
   have hB34 := hbc.trans (hbd.mono (by omega))
   have hB4 := hb3.trans (hB34.mono hb3.size)
   have kk := bcell' hB4
   replace x0 := (kk.1 _ 0 hl1).trans x0
   replace x1 := (kk.1 _ 1 hl1).trans x1
   replace x2 := (kk.1 _ 2 hl1).trans x2
   replace f0 := (kk.1 _ 0 hl2).trans f0
   replace f1 := (kk.1 _ 1 hl2).trans f1
   replace f2 := (kk.1 _ 2 hl2).trans f2
   have y0 := ((bcell' hbd).1 w3.heap.size 0 (by omega)).trans (hcc 0)
   have y1 := ((bcell' hbd).1 w3.heap.size 1 (by omega)).trans (hcc 1)
   have y2 := ((bcell' hbd).1 w3.heap.size 2 (by omega)).trans (hcc 2)
   have g0 := hcd 0
   have g1 := hcd 1
   have g2 := hcd 2
   simp at y0 y1 y2 g0 g1 g2
   have hz3 := hb3.size
   have hN4 : NetS wd wd.heap.size A1 A2 A3 n := (hN2.keep fun q hq => hB4.cell (Nat.lt_trans hq hl1)).more (by omega)
   have hM4 : NetS wd wd.heap.size D1 D2 D3 n := (hM.below hB34).more (by omega)
   have hSm := hide (show Calls Tryz.prog 8 #[.agg #[.slice A1 n.sw.length c1, .slice A2 n.ports.length c2, .slice A3 n.links.length c3], .agg #[.slice D1 n.sw.length d1, .slice D2 n.ports.length d2, .slice D3 n.links.length d3]] wd fun e w' => e = .returned (.bool true) ∧ Below wd.heap.size wd w' from (same_any n n A1 A2 A3 D1 D2 D3 c1 c2 c3 d1 d2 d3 wd hN4 hM4).mono fun e w' h => ⟨by rw [h.1, same13], h.2⟩)
   have hl3 : w1.heap.size < wd.heap.size := by omega
   have hl4 : w1.heap.size + 1 < wd.heap.size := by omega
   have hl5 : w3.heap.size < wd.heap.size := by omega
   have hl6 : w3.heap.size + 1 < wd.heap.size := by omega
   have hB5 := hide (hB2'.out.trans (hB4.mono hB2'.out.size))
   replace hsc := hide hsc
   replace hsd := hide hsd
   clear kk hcc hcd hbc hbd hwc hwd hB4 hb3 hl1 hl2 hB2' hz3 hR hN2 hM hN4 hM4 hB34
   go_wp2_with (first
    | (go_at_call 8; refine hSm.out.mono ?_; rintro e w5 ⟨rfl, hb5⟩; have kq := bcell' hb5; replace f0 := (kq.1 _ 0 hl4).trans f0; replace f1 := (kq.1 _ 1 hl4).trans f1; replace f2 := (kq.1 _ 2 hl4).trans f2; replace g0 := (kq.1 _ 0 hl6).trans g0; replace g1 := (kq.1 _ 1 hl6).trans g1; replace g2 := (kq.1 _ 2 hl6).trans g2; clear kq; have hB6 := hB5.out.trans (hb5.mono hB5.out.size))
    | (go_at_call 5; refine (hKn.out _ hB6).mono ?_; rintro e w7 ⟨rfl, hb7⟩))
   go_ret
   exact ⟨rfl, hB6.trans (hb7.mono hB6.size)⟩
end Go.Proofs.YtbjokgnnklcbcaaGreatDoor

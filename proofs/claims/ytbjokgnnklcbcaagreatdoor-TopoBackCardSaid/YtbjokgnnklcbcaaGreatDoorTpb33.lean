import Derived.Test.YtbjokgnnklcbcaaGreatDoorTpb28
import Derived.Test.YtbjokgnnklcbcaaGreatDoorTpb32
import Derived.Test.YtbjokgnnklcbcaaGreatDoorTpb30
set_option linter.all false
/-! Layer 13: Read. -/
namespace Go.Proofs.YtbjokgnnklcbcaaGreatDoor
open Go.RowKit
attribute [local go_sem] run_panic_iface
theorem asW_yes (v : Value) (W : World) : (Instr.typeAssert (.iface 49 v) 20 49 true).run Tryz.prog W = .ok (.tuple #[v, .bool true]) W := by kernel_rfl
theorem asW_nil (W : World) : (Instr.typeAssert .nilIface 20 49 true).run Tryz.prog W = .ok (.tuple #[.agg #[.int .i64 0, .int .i64 0], .bool false]) W := by kernel_rfl
/-- What Read holds: the text, the network, the fault. -/
structure ReB (W : World) (b : Nat) (s : ByteArray) : Prop where
 lt : b + 2 < W.heap.size
 c0 : W.cell? ⟨b, 0, none⟩ = some (.string s)
 z0 : W.cell? ⟨b + 1, 0, none⟩ = some (.slice none 0 0)
 z1 : W.cell? ⟨b + 1, 1, none⟩ = some (.slice none 0 0)
 z2 : W.cell? ⟨b + 1, 2, none⟩ = some (.slice none 0 0)
 e0 : W.cell? ⟨b + 2, 0, none⟩ = some (.int .i64 0)
 e1 : W.cell? ⟨b + 2, 1, none⟩ = some (.int .i64 0)
 e2 : W.cell? ⟨b + 2, 2, none⟩ = some (.int .i64 0)
 f0 : W.frozen? ⟨b + 1, 0, none⟩ = false
 f1 : W.frozen? ⟨b + 1, 1, none⟩ = false
 f2 : W.frozen? ⟨b + 1, 2, none⟩ = false
 g0 : W.frozen? ⟨b + 2, 0, none⟩ = false
 g1 : W.frozen? ⟨b + 2, 1, none⟩ = false
 g2 : W.frozen? ⟨b + 2, 2, none⟩ = false
theorem ReB.below {W W' : World} {b B : Nat} {s : ByteArray} (h : ReB W b s) (hb : Below B W W') (hB : b + 2 < B) : ReB W' b s := by
 have kk := bcell' hb
 exact ⟨Nat.lt_of_lt_of_le h.lt hb.size, (kk.1 b 0 (by omega)).trans h.c0, (kk.1 (b + 1) 0 (by omega)).trans h.z0, (kk.1 (b + 1) 1 (by omega)).trans h.z1, (kk.1 (b + 1) 2 (by omega)).trans h.z2, (kk.1 (b + 2) 0 (by omega)).trans h.e0, (kk.1 (b + 2) 1 (by omega)).trans h.e1, (kk.1 (b + 2) 2 (by omega)).trans h.e2, (kk.2 (b + 1) 0 (by omega)).trans h.f0, (kk.2 (b + 1) 1 (by omega)).trans h.f1, (kk.2 (b + 1) 2 (by omega)).trans h.f2, (kk.2 (b + 2) 0 (by omega)).trans h.g0, (kk.2 (b + 2) 1 (by omega)).trans h.g1, (kk.2 (b + 2) 2 (by omega)).trans h.g2⟩
theorem re0 (w : World) (s : ByteArray) : ReB (((w.alloc (.cells #[.string s] 9)).alloc (.cells #[.slice none 0 0, .slice none 0 0, .slice none 0 0] 27)).alloc (.cells #[.int .i64 0, .int .i64 0, .int .i64 0] 32)) w.heap.size s ∧ Below w.heap.size w (((w.alloc (.cells #[.string s] 9)).alloc (.cells #[.slice none 0 0, .slice none 0 0, .slice none 0 0] 27)).alloc (.cells #[.int .i64 0, .int .i64 0, .int .i64 0] 32)) := by
 obtain ⟨wa, hwa, hsa, hba, hca, hfa⟩ := box1 w #[.string s] 9
 obtain ⟨wb, hwb, hsb, hbb, hcb, hfb⟩ := box1 wa #[.slice none 0 0, .slice none 0 0, .slice none 0 0] 27
 obtain ⟨wc, hwc, hsc, hbc, hcc, hfc⟩ := box1 wb #[.int .i64 0, .int .i64 0, .int .i64 0] 32
 rw [hwa, hwb, hwc]
 have e1 : wa.heap.size = w.heap.size + 1 := hsa
 have e2 : wb.heap.size = w.heap.size + 2 := by omega
 have hbbc := hbb.trans (hbc.mono (by omega))
 have k1 := bcell' hbbc
 have k2 := bcell' hbc
 rw [e1] at hcb hfb
 rw [e2] at hcc hfc
 exact ⟨⟨by omega, (k1.1 _ 0 (by omega)).trans (hca 0), (k2.1 _ 0 (by omega)).trans (hcb 0), (k2.1 _ 1 (by omega)).trans (hcb 1), (k2.1 _ 2 (by omega)).trans (hcb 2), hcc 0, hcc 1, hcc 2, (k2.2 _ 0 (by omega)).trans (hfb 0), (k2.2 _ 1 (by omega)).trans (hfb 1), (k2.2 _ 2 (by omega)).trans (hfb 2), hfc 0, hfc 1, hfc 2⟩, hba.trans (hbbc.mono (by omega))⟩
set_option maxRecDepth 100000 in
set_option maxHeartbeats 4000000 in
/-- Entered of a frame that panics with a fault: the panic is marked, the results are laid. -/
theorem readd_wrong (b k : Nat) (s : ByteArray) (n : Int) (older : List PanicEntry) (w : World) (h : ReB w b s) (hk : k ≤ s.size) (hs : s.size < 4611686018427387904) (hn : n ≠ 0) :
  CallsD Tryz.prog 15 #[.pointer (some ⟨b, 0, none⟩), .pointer (some ⟨b + 1, 0, none⟩), .pointer (some ⟨b + 2, 0, none⟩)] (.panicking ({ v := .iface 49 (.agg #[.int .i64 n, .int .i64 (k : Int)]), recovered := false } :: older)) w fun e u' w' =>
   e = .returned (.tuple #[]) ∧ u' = .panicking ({ v := .iface 49 (.agg #[.int .i64 n, .int .i64 (k : Int)]), recovered := true } :: older) ∧ ∃ w3, Below w.heap.size w w3 ∧ w' = ((((((w3.setCell ⟨b + 1, 0, none⟩ (.slice none 0 0)).setCell ⟨b + 1, 1, none⟩ (.slice none 0 0)).setCell ⟨b + 1, 2, none⟩ (.slice none 0 0)).setCell ⟨b + 2, 0, none⟩ (.int .i64 n)).setCell ⟨b + 2, 1, none⟩ (.int .i64 (((placeR (s.data.toList.take k)).1 : Nat) : Int))).setCell ⟨b + 2, 2, none⟩ (.int .i64 (((placeR (s.data.toList.take k)).2 : Nat) : Int))) := by
 obtain ⟨wx, hwx, hsx, hbx, hcx, hfx⟩ := box1 w #[.int .i64 n, .int .i64 (k : Int)] 49
 have hF := hide (fault_any s k n wx hk hs hn)
 unfold faultV at hF
 generalize (((placeR (s.data.toList.take k)).1 : Nat) : Int) = pl at hF ⊢
 generalize (((placeR (s.data.toList.take k)).2 : Nat) : Int) = pc at hF ⊢
 have x0 := hcx 0
 have x1 := hcx 1
 simp at x0 x1
 have hb := hide (h.below hbx h.lt)
 have hbx' := hide hbx
 have hltx : w.heap.size < wx.heap.size := by omega
 have hlb := h.lt
 obtain ⟨lt, c0, z0, z1, z2, e0, e1, e2, f0, f1, f2, g0, g1, g2⟩ := hb.out
 clear h hcx hfx hbx
 replace hsx := hide hsx
 refine callsD_of_wpS Tryz.func15 rfl fun c₀ cs hu => ?_
 apply wpS_seq
 apply wpS_region
 refine wpOpsS_k fun K hK => ?_
 simp [wpOpsS, go_sem, asW_yes, recoverD, hu, Tryz.ntmps15]
 refine hK _ _ _ _ ?_
 clear hK K
 show Code.wpS _ _ _ _ _ _
 apply wpS_seq
 apply wpS_region
 refine wpOpsS_k fun K hK => ?_
 simp [wpOpsS, go_sem]
 refine hK _ _ _ _ ?_
 clear hK K
 show Code.wpS _ _ _ _ _ _
 refine wpS_cond (t := true) (by simp [Act.eval, Array.replicate]) ?_
 simp only [if_true]
 refine wpS_of_wp ?_
 rw [hwx]
 go_wp2_with (go_at_call 16; refine hF.out.mono ?_; rintro e w3 ⟨rfl, hb3⟩; have kb := hb.out.below hb3 lt; obtain ⟨y, yc0, yz0, yz1, yz2, ye0, ye1, ye2, yf0, yf1, yf2, yg0, yg1, yg2⟩ := kb)
 exact ⟨rfl, _, rfl, .tuple #[], by simp [results, Tryz.results15], rfl, rfl, w3, hbx'.out.trans (hb3.mono hbx'.out.size), rfl⟩
set_option maxRecDepth 100000 in
set_option maxHeartbeats 4000000 in
/-- Entered of a frame that returns: recover finds nothing. -/
theorem readd_idle (p q r : Addr) (w : World) :
  CallsD Tryz.prog 15 #[.pointer (some p), .pointer (some q), .pointer (some r)] .returning w fun e u' w' => e = .returned (.tuple #[]) ∧ u' = .returning ∧ Below w.heap.size w w' := by
 obtain ⟨wx, hwx, hsx, hbx, hcx, hfx⟩ := box1 w #[.int .i64 0, .int .i64 0] 49
 refine callsD_of_wpS Tryz.func15 rfl fun c₀ cs hu => ?_
 apply wpS_seq
 apply wpS_region
 refine wpOpsS_k fun K hK => ?_
 simp [wpOpsS, go_sem, asW_nil, recoverD, hu, Tryz.ntmps15]
 refine hK _ _ _ _ ?_
 clear hK K
 show Code.wpS _ _ _ _ _ _
 apply wpS_seq
 apply wpS_region
 refine wpOpsS_k fun K hK => ?_
 simp [wpOpsS, go_sem]
 refine hK _ _ _ _ ?_
 clear hK K
 show Code.wpS _ _ _ _ _ _
 refine wpS_cond (t := false) (by simp [Act.eval, Array.replicate]) ?_
 simp only [Bool.false_eq_true, if_false]
 refine wpS_of_wp ?_
 rw [hwx]
 go_wp2
 exact ⟨rfl, .returning, by cases c₀; simp_all, .tuple #[], by simp [results, Tryz.results15], rfl, rfl, hbx⟩
end Go.Proofs.YtbjokgnnklcbcaaGreatDoor

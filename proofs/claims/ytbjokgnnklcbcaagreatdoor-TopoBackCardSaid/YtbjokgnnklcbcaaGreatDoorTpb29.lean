import Derived.Test.YtbjokgnnklcbcaaGreatDoorTpb15
import Derived.Defers
import Derived.Recover
import Derived.StillTailTactics
set_option linter.all false
/-! Layer 3: Lex. -/
namespace Go.Proofs.YtbjokgnnklcbcaaGreatDoor
open Go.RowKit
theorem asE_yes (v : Value) (W : World) : (Instr.typeAssert (.iface 28 v) 20 28 true).run Tryz.prog W = .ok (.tuple #[v, .bool true]) W := by kernel_rfl
theorem asE_nil (W : World) : (Instr.typeAssert .nilIface 20 28 true).run Tryz.prog W = .ok (.tuple #[.int .i64 0, .bool false]) W := by kernel_rfl
theorem wpOpsS_k {P : Program} {ops : Array Oper} {Q : Exit → Act → List Frame → World → Prop} {l : List Nat} {a : Act} {cs : List Frame} {w : World} (h : ∀ K : Exit → Act → List Frame → World → Prop, (∀ e a cs w, Q e a cs w → K e a cs w) → wpOpsS P ops K l a cs w) : wpOpsS P ops Q l a cs w := h Q fun _ _ _ _ h => h
set_option maxRecDepth 100000 in
set_option maxHeartbeats 4000000 in
/-- Entered of a frame that panics with an error's number: the panic is marked, the results are laid. -/
theorem lexd_errno (b k : Nat) (s : ByteArray) (v : Value) (n : Int) (older : List PanicEntry) (w : World) (h : LexB w b s k v) (hk : k ≤ s.size) (hs : s.size < 4611686018427387904) (hn : n ≠ 0) :
  CallsD Tryz.prog 42 #[.pointer (some ⟨b, 0, none⟩), .pointer (some ⟨b + 3, 0, none⟩), .pointer (some ⟨b + 1, 0, none⟩), .pointer (some ⟨b + 2, 0, none⟩)] (.panicking ({ v := .iface 28 (.int .i64 n), recovered := false } :: older)) w fun e u' w' =>
   e = .returned (.tuple #[]) ∧ u' = .panicking ({ v := .iface 28 (.int .i64 n), recovered := true } :: older) ∧ ∃ w3, Below w.heap.size w w3 ∧ w' = ((((w3.setCell ⟨b + 1, 0, none⟩ (.slice none 0 0)).setCell ⟨b + 2, 0, none⟩ (.int .i64 n)).setCell ⟨b + 2, 1, none⟩ (.int .i64 (((placeR (s.data.toList.take k)).1 : Nat) : Int))).setCell ⟨b + 2, 2, none⟩ (.int .i64 (((placeR (s.data.toList.take k)).2 : Nat) : Int))) := by
 have hF := hide (fault_any s k n w hk hs hn)
 unfold faultV at hF
 generalize (((placeR (s.data.toList.take k)).1 : Nat) : Int) = pl at hF ⊢
 generalize (((placeR (s.data.toList.take k)).2 : Nat) : Int) = pc at hF ⊢
 have hb := hide h
 obtain ⟨lt, c0, c1, e0, e1, e2, c3, f1, g0, g1, g2, f3⟩ := h
 refine callsD_of_wpS Tryz.func42 rfl fun c₀ cs hu => ?_
 apply wpS_seq
 apply wpS_region
 refine wpOpsS_k fun K hK => ?_
 simp [wpOpsS, go_sem, asE_yes, recoverD, hu, Tryz.ntmps42]
 refine hK _ _ _ _ ?_
 clear hK K
 show Code.wpS _ _ _ _ _ _
 apply wpS_seq
 apply wpS_region
 refine wpOpsS_k fun K hK => ?_
 simp [wpOpsS, go_sem]
 refine hK _ _ _ _ ?_
 clear hK K
 show Code.wpS _ _ _ _ _ _
 refine wpS_cond (t := true) (by simp [Act.eval, Array.replicate]) ?_
 simp only [if_true]
 refine wpS_of_wp ?_
 go_wp2_with (go_at_call 16; refine hF.out.mono ?_; rintro e w3 ⟨rfl, hb3⟩; have kb := hb.out.below hb3 lt; obtain ⟨y, yc0, yc1, ye0, ye1, ye2, yc3, yf1, yg0, yg1, yg2, yf3⟩ := kb)
 exact ⟨rfl, _, rfl, .tuple #[], by simp [results, Tryz.results42], rfl, rfl, w3, hb3, rfl⟩
set_option maxRecDepth 100000 in
set_option maxHeartbeats 2000000 in
/-- Lex's deferred closure, entered of a frame that returns: recover finds nothing. -/
theorem lexd_idle (p q r t : Addr) (w : World) :
  CallsD Tryz.prog 42 #[.pointer (some p), .pointer (some q), .pointer (some r), .pointer (some t)] .returning w fun e u' w' => e = .returned (.tuple #[]) ∧ u' = .returning ∧ w' = w := by
 refine callsD_of_wpS Tryz.func42 rfl fun c₀ cs hu => ?_
 apply wpS_seq
 apply wpS_region
 refine wpOpsS_k fun K hK => ?_
 simp [wpOpsS, go_sem, asE_nil, recoverD, hu, Tryz.ntmps42]
 refine hK _ _ _ _ ?_
 clear hK K
 show Code.wpS _ _ _ _ _ _
 apply wpS_seq
 apply wpS_region
 refine wpOpsS_k fun K hK => ?_
 simp [wpOpsS, go_sem]
 refine hK _ _ _ _ ?_
 clear hK K
 show Code.wpS _ _ _ _ _ _
 refine wpS_cond (t := false) (by simp [Act.eval, Array.replicate]) ?_
 simp only [Bool.false_eq_true, if_false]
 refine wpS_of_wp ?_
 go_wp2
 exact ⟨rfl, .returning, by cases c₀; simp_all, .tuple #[], by simp [results, Tryz.results42], rfl, rfl, rfl⟩
end Go.Proofs.YtbjokgnnklcbcaaGreatDoor

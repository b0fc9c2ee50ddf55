import Derived.Test.YtbjokgnnklcbcaaGreatDoorTpr01
import Derived.Test.YtbjokgnnklcbcaaGreatDoorTpr03
import Derived.Test.YtbjokgnnklcbcaaGreatDoorTpr14
import Derived.Defers
import Derived.Recover
import Derived.StillTailTactics
set_option linter.all false
/-! Layer 3, the document's: what stands between tokens. -/
namespace Go.Proofs.YtbjokgnnklcbcaaGreatDoor
open Go.RowKit
/-- What is left from a place in a comment on. -/
def gapT (s : ByteArray) (k : Nat) : Nat := k + gap true (s.data.toList.drop k)
theorem gapT_next {s : ByteArray} {k : Nat} (h : k < s.size) (hc : s[k] ≠ 10) : gapT s (k + 1) = gapT s k := by
 unfold gapT
 rw [drop_cons s h]
 simp only [gap, if_neg hc]
 omega
theorem gapT_line {s : ByteArray} {k : Nat} (h : k < s.size) (hc : s[k] = 10) : gapT s k = gapAt s k := by
 unfold gapT gapAt
 rw [drop_cons s h, hc]
 simp [gap, wsB]
theorem gapT_end {s : ByteArray} {k : Nat} (h : ¬ k < s.size) : gapT s k = gapAt s k := by
 rw [gapAt_end h]
 unfold gapT
 rw [List.drop_eq_nil_of_le (by rw [← Lib.size_eq]; omega)]
 rfl
theorem gapT_open {s : ByteArray} {k : Nat} (hp : Lib.hasPrefix (s.data.toList.drop k) [47, 47] = true) : gapT s k = gapAt s k := by
 unfold gapT gapAt
 rw [gap_open hp]
theorem two_slash {s : ByteArray} {k : Nat} (h : k < s.size) : Lib.hasPrefix (s.data.toList.drop k) [47, 47] = true ↔ s[k] = 47 ∧ ∃ h2 : k + 1 < s.size, s[k + 1] = 47 := by
 rw [drop_cons s h]
 constructor
 ·intro hp
  by_cases h2 : k + 1 < s.size
  ·rw [drop_cons s h2] at hp
   simp [Lib.hasPrefix, List.isPrefixOf] at hp
   exact ⟨hp.1.symm, h2, hp.2.symm⟩
  ·rw [List.drop_eq_nil_of_le (by rw [← Lib.size_eq]; omega)] at hp
   simp [Lib.hasPrefix, List.isPrefixOf] at hp
 ·rintro ⟨h1, h2, h3⟩
  rw [drop_cons s h2, h1, h3]
  simp [Lib.hasPrefix, List.isPrefixOf]
theorem u8_iff (c n : UInt8) : c = n ↔ ((c.toNat : Nat) : Int) = ((n.toNat : Nat) : Int) := ⟨fun e => by rw [e], fun e => UInt8.toNat_inj.1 (by omega)⟩
set_option maxRecDepth 100000 in
set_option maxHeartbeats 4000000 in
theorem skip_any (s : ByteArray) (k0 : Nat) (w : World) (hk0 : k0 ≤ s.size) (hs : s.size ≤ 4611686018427387904) :
  Calls Tryz.prog 53 #[.string s, .int .i64 (k0 : Int)] w fun e w' => e = .returned (.int .i64 ((gapAt s k0 : Nat) : Int)) ∧ w' = w := by
 have hl : s.size ≤ 9223372036854775807 := by omega
 go_enter Tryz.func53, Tryz.ntmps53
 go_wp2
 go_loop [1] (fun i => ∃ k : Nat, k ≤ s.size ∧ i = .int .i64 k ∧ gapAt s k = gapAt s k0) (fun i => s.size - (intOf i).toNat)
 case atStart => exact ⟨k0, hk0, rfl, rfl⟩
 case round =>
  obtain ⟨k, hk, rfl, hg⟩ := hrel
  by_cases hlt : k < s.size
  ·have hkz : (k : Int) < (s.size : Int) := by omega
   have hk1 : (0 : Int) ≤ (k : Int) + 1 := by omega
   have hk2 : ((k : Int) + 1).toNat = k + 1 := by omega
   have hw := ws_iff s[k]
   have htwo := two_slash hlt
   have h47 := u8_iff s[k] 47
   obtain ⟨c, hc⟩ : ∃ c : Int, c = ((s[k].toNat : Nat) : Int) := ⟨_, rfl⟩
   have hix : ∀ W, (Instr.index 9 (.string s) (.int .i64 (k : Int))).run Tryz.prog W = .ok (.int .u8 c) W := fun W => by rw [hc]; go_simp
   rw [← hc] at hw h47
   replace hc := hide hc
   by_cases hws : wsB s[k] = true
   ·have hgw := hide (gapAt_ws hlt hws)
    have hwz := hw.1 hws
    clear htwo h47 hw
    replace hg := hide hg
    go_wp2
    all_goals try simp only [beq_iff_eq, beq_eq_false_iff_ne, ne_eq] at *
    all_goals first
     | (exfalso; omega)
     | (go_round
        case rel => exact ⟨k + 1, by omega, by go_num, hgw.out.trans hg.out⟩
        case measure => simp [intOf]; omega)
   ·have hws' : wsB s[k] = false := by simpa using hws
    have n1 : (c == 32) = false := beq_eq_false_iff_ne.2 fun h => hws (hw.2 (by omega))
    have n2 : (c == 9) = false := beq_eq_false_iff_ne.2 fun h => hws (hw.2 (by omega))
    have n3 : (c == 10) = false := beq_eq_false_iff_ne.2 fun h => hws (hw.2 (by omega))
    have hstop := fun hp => hide (show gapAt s k0 = k from hg.symm.trans (gapAt_stop hlt hws' hp))
    by_cases h1 : s[k] = 47
    ·have c47 : (c == 47) = true := beq_iff_eq.2 (h47.1 h1)
     by_cases h2 : k + 1 < s.size
     ·have hkz2 : (k : Int) + 1 < (s.size : Int) := by omega
      have h472 := u8_iff s[k + 1] 47
      obtain ⟨d, hd⟩ : ∃ d : Int, d = ((s[k + 1].toNat : Nat) : Int) := ⟨_, rfl⟩
      have hix2 : ∀ W, (Instr.index 9 (.string s) (.int .i64 ((k : Int) + 1))).run Tryz.prog W = .ok (.int .u8 d) W := fun W => by rw [hd]; go_simp
      rw [← hd] at h472
      replace hd := hide hd
      by_cases h3 : s[k + 1] = 47
      ·have d47 : (d == 47) = true := beq_iff_eq.2 (h472.1 h3)
       have hopen := hide (gapT_open (htwo.2 ⟨h1, h2, h3⟩))
       have hne10 : s[k] ≠ 10 := by rw [h1]; decide
       clear htwo h47 h472 hw hstop hws hws' h1 h3
       replace hg := hide hg
       replace hne10 := hide hne10
       go_wp2
       generalize hk00 : gapAt s k = G at hopen hg
       replace hk00 := hide hk00
       go_loop [1] (fun i => ∃ j : Nat, k ≤ j ∧ j ≤ s.size ∧ i = .int .i64 j ∧ gapT s j = G) (fun i => s.size - (intOf i).toNat)
       case atStart => exact ⟨k, Nat.le_refl _, hk, rfl, hopen.out⟩
       case round =>
        clear hix hix2 hopen
        obtain ⟨j, hkj, hj, rfl, hgj⟩ := hrel
        by_cases hjl : j < s.size
        ·have hjz : (j : Int) < (s.size : Int) := by omega
         have h10 := u8_iff s[j] 10
         obtain ⟨c', hc'⟩ : ∃ c' : Int, c' = ((s[j].toNat : Nat) : Int) := ⟨_, rfl⟩
         have hix : ∀ W, (Instr.index 9 (.string s) (.int .i64 (j : Int))).run Tryz.prog W = .ok (.int .u8 c') W := fun W => by rw [hc']; go_simp
         rw [← hc'] at h10
         replace hc' := hide hc'
         by_cases hn : s[j] = 10
         ·have c10 : (c' == 10) = true := beq_iff_eq.2 (h10.1 hn)
          have hjk : j ≠ k := by
           intro h
           subst h
           exact hne10.out hn
          have hgl := hide (show gapAt s j = gapAt s k0 from by rw [← gapT_line hjl hn, hgj]; exact hg.out)
          clear h10 hn
          replace hgj := hide hgj
          go_wp2
          go_round
          case rel => exact ⟨j, hj, rfl, hgl.out⟩
          case measure => simp [intOf]; omega
         ·have c10 : (c' == 10) = false := beq_eq_false_iff_ne.2 fun h => hn (h10.2 h)
          have hgn := hide (show gapT s (j + 1) = G from by rw [gapT_next hjl hn]; exact hgj)
          clear h10 hn
          replace hgj := hide hgj
          go_wp2
          go_round
          case rel => exact ⟨j + 1, by omega, by omega, by go_num, hgn.out⟩
          case measure => simp [intOf]; omega
        ·have hgl := hide (show gapAt s j = gapAt s k0 from by rw [← gapT_end hjl, hgj]; exact hg.out)
         have hjz : ¬ (j : Int) < (s.size : Int) := by omega
         replace hgj := hide hgj
         go_wp2
         go_round
         case rel => exact ⟨j, hj, rfl, hgl.out⟩
         case measure => simp [intOf]; omega
      ·have d47 : (d == 47) = false := beq_eq_false_iff_ne.2 fun h => h3 (h472.2 h)
       have hst := hstop (by rw [← Bool.not_eq_true, htwo]; exact fun h => h3 h.2.2)
       clear htwo h47 h472 hw hstop hws hws' h1 h3
       replace hg := hide hg
       go_wp2
       go_ret
       rw [hst.out]
       exact ⟨rfl, rfl⟩
     ·have hkz2 : ¬ (k : Int) + 1 < (s.size : Int) := by omega
      have hst := hstop (by rw [← Bool.not_eq_true, htwo]; exact fun h => h2 h.2.1)
      clear htwo h47 hw hstop hws hws' h1
      replace hg := hide hg
      go_wp2
      go_ret
      rw [hst.out]
      exact ⟨rfl, rfl⟩
    ·have c47 : (c == 47) = false := beq_eq_false_iff_ne.2 fun h => h1 (h47.2 h)
     have hst := hstop (by rw [← Bool.not_eq_true, htwo]; exact fun h => h1 h.1)
     clear htwo h47 hw hstop hws hws' h1
     replace hg := hide hg
     go_wp2
     go_ret
     rw [hst.out]
     exact ⟨rfl, rfl⟩
  ·have he := gapAt_end hlt
   go_wp2
   go_ret
   rw [show gapAt s k0 = k from hg.symm.trans he]
   exact ⟨rfl, rfl⟩
end Go.Proofs.YtbjokgnnklcbcaaGreatDoor
/-! Layer 3: Lex. -/
namespace Go.Proofs.YtbjokgnnklcbcaaGreatDoor
open Go.RowKit
theorem asE_yes (v : Value) (W : World) : (Instr.typeAssert (.iface 28 v) 20 28 true).run Tryz.prog W = .ok (.tuple #[v, .bool true]) W := by kernel_rfl
theorem asE_nil (W : World) : (Instr.typeAssert .nilIface 20 28 true).run Tryz.prog W = .ok (.tuple #[.int .i64 0, .bool false]) W := by kernel_rfl
theorem wpOpsS_k {P : Program} {ops : Array Oper} {Q : Exit → Act → List Frame → World → Prop} {l : List Nat} {a : Act} {cs : List Frame} {w : World} (h : ∀ K : Exit → Act → List Frame → World → Prop, (∀ e a cs w, Q e a cs w → K e a cs w) → wpOpsS P ops K l a cs w) : wpOpsS P ops Q l a cs w := h Q fun _ _ _ _ h => h
set_option maxRecDepth 100000 in
set_option maxHeartbeats 4000000 in
/-- Entered of a frame that panics with an error's number: the panic is marked, the results are laid. -/
theorem lexd_errno (b k : Nat) (s : ByteArray) (v : Value) (n : Int) (older : List PanicEntry) (w : World) (h : LexB w b s k v) (hk : k ≤ s.size) (hs : s.size < 4611686018427387904) (hn : n ≠ 0) :
  CallsD Tryz.prog 42 #[.pointer (some ⟨b, 0, none⟩), .pointer (some ⟨b + 3, 0, none⟩), .pointer (some ⟨b + 1, 0, none⟩), .pointer (some ⟨b + 2, 0, none⟩)] (.panicking ({ v := .iface 28 (.int .i64 n), recovered := false } :: older)) w fun e u' w' =>
   e = .returned (.tuple #[]) ∧ u' = .panicking ({ v := .iface 28 (.int .i64 n), recovered := true } :: older) ∧ ∃ w3, Below w.heap.size w w3 ∧ w' = ((((w3.setCell ⟨b + 1, 0, none⟩ (.slice none 0 0)).setCell ⟨b + 2, 0, none⟩ (.int .i64 n)).setCell ⟨b + 2, 1, none⟩ (.int .i64 (((placeR (s.data.toList.take k)).1 : Nat) : Int))).setCell ⟨b + 2, 2, none⟩ (.int .i64 (((placeR (s.data.toList.take k)).2 : Nat) : Int))) := by
 have hF := hide (fault_any s k n w hk hs hn)
 unfold faultV at hF
 generalize (((placeR (s.data.toList.take k)).1 : Nat) : Int) = pl at hF ⊢
 generalize (((placeR (s.data.toList.take k)).2 : Nat) : Int) = pc at hF ⊢
 have hb := hide h
 obtain ⟨lt, c0, c1, e0, e1, e2, c3, f1, g0, g1, g2, f3⟩ := h
 refine callsD_of_wpS Tryz.func42 rfl fun c₀ cs hu => ?_
 apply wpS_seq
 apply wpS_region
 refine wpOpsS_k fun K hK => ?_
 simp [wpOpsS, go_sem, asE_yes, recoverD, hu, Tryz.ntmps42]
 refine hK _ _ _ _ ?_
 clear hK K
 show Code.wpS _ _ _ _ _ _
 apply wpS_seq
 apply wpS_region
 refine wpOpsS_k fun K hK => ?_
 simp [wpOpsS, go_sem]
 refine hK _ _ _ _ ?_
 clear hK K
 show Code.wpS _ _ _ _ _ _
 refine wpS_cond (t := true) (by simp [Act.eval, Array.replicate]) ?_
 simp only [if_true]
 refine wpS_of_wp ?_
 go_wp2_with (go_at_call 16; refine hF.out.mono ?_; rintro e w3 ⟨rfl, hb3⟩; have kb := hb.out.below hb3 lt; obtain ⟨y, yc0, yc1, ye0, ye1, ye2, yc3, yf1, yg0, yg1, yg2, yf3⟩ := kb)
 exact ⟨rfl, _, rfl, .tuple #[], by simp [results, Tryz.results42], rfl, rfl, w3, hb3, rfl⟩
set_option maxRecDepth 100000 in
set_option maxHeartbeats 2000000 in
/-- Lex's deferred closure, entered of a frame that returns: recover finds nothing. -/
theorem lexd_idle (p q r t : Addr) (w : World) :
  CallsD Tryz.prog 42 #[.pointer (some p), .pointer (some q), .pointer (some r), .pointer (some t)] .returning w fun e u' w' => e = .returned (.tuple #[]) ∧ u' = .returning ∧ w' = w := by
 refine callsD_of_wpS Tryz.func42 rfl fun c₀ cs hu => ?_
 apply wpS_seq
 apply wpS_region
 refine wpOpsS_k fun K hK => ?_
 simp [wpOpsS, go_sem, asE_nil, recoverD, hu, Tryz.ntmps42]
 refine hK _ _ _ _ ?_
 clear hK K
 show Code.wpS _ _ _ _ _ _
 apply wpS_seq
 apply wpS_region
 refine wpOpsS_k fun K hK => ?_
 simp [wpOpsS, go_sem]
 refine hK _ _ _ _ ?_
 clear hK K
 show Code.wpS _ _ _ _ _ _
 refine wpS_cond (t := false) (by simp [Act.eval, Array.replicate]) ?_
 simp only [Bool.false_eq_true, if_false]
 refine wpS_of_wp ?_
 go_wp2
 exact ⟨rfl, .returning, by cases c₀; simp_all, .tuple #[], by simp [results, Tryz.results42], rfl, rfl, rfl⟩
end Go.Proofs.YtbjokgnnklcbcaaGreatDoor

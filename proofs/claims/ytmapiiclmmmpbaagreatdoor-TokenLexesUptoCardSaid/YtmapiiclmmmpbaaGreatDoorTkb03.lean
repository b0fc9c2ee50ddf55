import Derived.Test.YtmapiiclmmmpbaaGreatDoorTkb01
import Derived.Test.YtmapiiclmmmpbaaGreatDoorTkb02
set_option linter.all false
/-! Layer 3, the document's: what stands between tokens. -/
namespace Go.Proofs.YtmapiiclmmmpbaaGreatDoor
open Go.RowKit
/-- What is left from a place in a comment on. -/
def gapT (s : ByteArray) (k : Nat) : Nat := k + gap true (s.data.toList.drop k)
theorem gapT_next {s : ByteArray} {k : Nat} (h : k < s.size) (hc : s[k] ≠ 10) : gapT s (k + 1) = gapT s k := by
 unfold gapT
 rw [drop_cons s h]
 simp only [gap, if_neg hc]
 omega
theorem gapT_line {s : ByteArray} {k : Nat} (h : k < s.size) (hc : s[k] = 10) : gapT s k = gapAt s k := by
 unfold gapT gapAt
 rw [drop_cons s h, hc]
 simp [gap, wsB]
theorem gapT_end {s : ByteArray} {k : Nat} (h : ¬ k < s.size) : gapT s k = gapAt s k := by
 rw [gapAt_end h]
 unfold gapT
 rw [List.drop_eq_nil_of_le (by rw [← Lib.size_eq]; omega)]
 rfl
theorem gapT_open {s : ByteArray} {k : Nat} (hp : Lib.hasPrefix (s.data.toList.drop k) [47, 47] = true) : gapT s k = gapAt s k := by
 unfold gapT gapAt
 rw [gap_open hp]
theorem two_slash {s : ByteArray} {k : Nat} (h : k < s.size) : Lib.hasPrefix (s.data.toList.drop k) [47, 47] = true ↔ s[k] = 47 ∧ ∃ h2 : k + 1 < s.size, s[k + 1] = 47 := by
 rw [drop_cons s h]
 constructor
 ·intro hp
  by_cases h2 : k + 1 < s.size
  ·rw [drop_cons s h2] at hp
   simp [Lib.hasPrefix, List.isPrefixOf] at hp
   exact ⟨hp.1.symm, h2, hp.2.symm⟩
  ·rw [List.drop_eq_nil_of_le (by rw [← Lib.size_eq]; omega)] at hp
   simp [Lib.hasPrefix, List.isPrefixOf] at hp
 ·rintro ⟨h1, h2, h3⟩
  rw [drop_cons s h2, h1, h3]
  simp [Lib.hasPrefix, List.isPrefixOf]
theorem u8_iff (c n : UInt8) : c = n ↔ ((c.toNat : Nat) : Int) = ((n.toNat : Nat) : Int) := ⟨fun e => by rw [e], fun e => UInt8.toNat_inj.1 (by omega)⟩
set_option maxRecDepth 100000 in
set_option maxHeartbeats 4000000 in
theorem skip_any (s : ByteArray) (k0 : Nat) (w : World) (hk0 : k0 ≤ s.size) (hs : s.size ≤ 4611686018427387904) :
  Calls Tryz.prog 20 #[.string s, .int .i64 (k0 : Int)] w fun e w' => e = .returned (.int .i64 ((gapAt s k0 : Nat) : Int)) ∧ w' = w := by
 have hl : s.size ≤ 9223372036854775807 := by omega
 go_enter Tryz.func20, Tryz.ntmps20
 go_wp2
 go_loop [1] (fun i => ∃ k : Nat, k ≤ s.size ∧ i = .int .i64 k ∧ gapAt s k = gapAt s k0) (fun i => s.size - (intOf i).toNat)
 case atStart => exact ⟨k0, hk0, rfl, rfl⟩
 case round =>
  obtain ⟨k, hk, rfl, hg⟩ := hrel
  by_cases hlt : k < s.size
  ·have hkz : (k : Int) < (s.size : Int) := by omega
   have hk1 : (0 : Int) ≤ (k : Int) + 1 := by omega
   have hk2 : ((k : Int) + 1).toNat = k + 1 := by omega
   have hw := ws_iff s[k]
   have htwo := two_slash hlt
   have h47 := u8_iff s[k] 47
   obtain ⟨c, hc⟩ : ∃ c : Int, c = ((s[k].toNat : Nat) : Int) := ⟨_, rfl⟩
   have hix : ∀ W, (Instr.index 9 (.string s) (.int .i64 (k : Int))).run Tryz.prog W = .ok (.int .u8 c) W := fun W => by rw [hc]; go_simp
   rw [← hc] at hw h47
   replace hc := hide hc
   by_cases hws : wsB s[k] = true
   ·have hgw := hide (gapAt_ws hlt hws)
    have hwz := hw.1 hws
    clear htwo h47 hw
    replace hg := hide hg
    go_wp2
    all_goals try simp only [beq_iff_eq, beq_eq_false_iff_ne, ne_eq] at *
    all_goals first
     | (exfalso; omega)
     | (go_round
        case rel => exact ⟨k + 1, by omega, by go_num, hgw.out.trans hg.out⟩
        case measure => simp [intOf]; omega)
   ·have hws' : wsB s[k] = false := by simpa using hws
    have n1 : (c == 32) = false := beq_eq_false_iff_ne.2 fun h => hws (hw.2 (by omega))
    have n2 : (c == 9) = false := beq_eq_false_iff_ne.2 fun h => hws (hw.2 (by omega))
    have n3 : (c == 10) = false := beq_eq_false_iff_ne.2 fun h => hws (hw.2 (by omega))
    have hstop := fun hp => hide (show gapAt s k0 = k from hg.symm.trans (gapAt_stop hlt hws' hp))
    by_cases h1 : s[k] = 47
    ·have c47 : (c == 47) = true := beq_iff_eq.2 (h47.1 h1)
     by_cases h2 : k + 1 < s.size
     ·have hkz2 : (k : Int) + 1 < (s.size : Int) := by omega
      have h472 := u8_iff s[k + 1] 47
      obtain ⟨d, hd⟩ : ∃ d : Int, d = ((s[k + 1].toNat : Nat) : Int) := ⟨_, rfl⟩
      have hix2 : ∀ W, (Instr.index 9 (.string s) (.int .i64 ((k : Int) + 1))).run Tryz.prog W = .ok (.int .u8 d) W := fun W => by rw [hd]; go_simp
      rw [← hd] at h472
      replace hd := hide hd
      by_cases h3 : s[k + 1] = 47
      ·have d47 : (d == 47) = true := beq_iff_eq.2 (h472.1 h3)
       have hopen := hide (gapT_open (htwo.2 ⟨h1, h2, h3⟩))
       have hne10 : s[k] ≠ 10 := by rw [h1]; decide
       clear htwo h47 h472 hw hstop hws hws' h1 h3
       replace hg := hide hg
       replace hne10 := hide hne10
       go_wp2
       generalize hk00 : gapAt s k = G at hopen hg
       replace hk00 := hide hk00
       go_loop [1] (fun i => ∃ j : Nat, k ≤ j ∧ j ≤ s.size ∧ i = .int .i64 j ∧ gapT s j = G) (fun i => s.size - (intOf i).toNat)
       case atStart => exact ⟨k, Nat.le_refl _, hk, rfl, hopen.out⟩
       case round =>
        clear hix hix2 hopen
        obtain ⟨j, hkj, hj, rfl, hgj⟩ := hrel
        by_cases hjl : j < s.size
        ·have hjz : (j : Int) < (s.size : Int) := by omega
         have h10 := u8_iff s[j] 10
         obtain ⟨c', hc'⟩ : ∃ c' : Int, c' = ((s[j].toNat : Nat) : Int) := ⟨_, rfl⟩
         have hix : ∀ W, (Instr.index 9 (.string s) (.int .i64 (j : Int))).run Tryz.prog W = .ok (.int .u8 c') W := fun W => by rw [hc']; go_simp
         rw [← hc'] at h10
         replace hc' := hide hc'
         by_cases hn : s[j] = 10
         ·have c10 : (c' == 10) = true := beq_iff_eq.2 (h10.1 hn)
          have hjk : j ≠ k := by
           intro h
           subst h
           exact hne10.out hn
          have hgl := hide (show gapAt s j = gapAt s k0 from by rw [← gapT_line hjl hn, hgj]; exact hg.out)
          clear h10 hn
          replace hgj := hide hgj
          go_wp2
          go_round
          case rel => exact ⟨j, hj, rfl, hgl.out⟩
          case measure => simp [intOf]; omega
         ·have c10 : (c' == 10) = false := beq_eq_false_iff_ne.2 fun h => hn (h10.2 h)
          have hgn := hide (show gapT s (j + 1) = G from by rw [gapT_next hjl hn]; exact hgj)
          clear h10 hn
          replace hgj := hide hgj
          go_wp2
          go_round
          case rel => exact ⟨j + 1, by omega, by omega, by go_num, hgn.out⟩
          case measure => simp [intOf]; omega
        ·have hgl := hide (show gapAt s j = gapAt s k0 from by rw [← gapT_end hjl, hgj]; exact hg.out)
         have hjz : ¬ (j : Int) < (s.size : Int) := by omega
         replace hgj := hide hgj
         go_wp2
         go_round
         case rel => exact ⟨j, hj, rfl, hgl.out⟩
         case measure => simp [intOf]; omega
      ·have d47 : (d == 47) = false := beq_eq_false_iff_ne.2 fun h => h3 (h472.2 h)
       have hst := hstop (by rw [← Bool.not_eq_true, htwo]; exact fun h => h3 h.2.2)
       clear htwo h47 h472 hw hstop hws hws' h1 h3
       replace hg := hide hg
       go_wp2
       go_ret
       rw [hst.out]
       exact ⟨rfl, rfl⟩
     ·have hkz2 : ¬ (k : Int) + 1 < (s.size : Int) := by omega
      have hst := hstop (by rw [← Bool.not_eq_true, htwo]; exact fun h => h2 h.2.1)
      clear htwo h47 hw hstop hws hws' h1
      replace hg := hide hg
      go_wp2
      go_ret
      rw [hst.out]
      exact ⟨rfl, rfl⟩
    ·have c47 : (c == 47) = false := beq_eq_false_iff_ne.2 fun h => h1 (h47.2 h)
     have hst := hstop (by rw [← Bool.not_eq_true, htwo]; exact fun h => h1 h.1)
     clear htwo h47 hw hstop hws hws' h1
     replace hg := hide hg
     go_wp2
     go_ret
     rw [hst.out]
     exact ⟨rfl, rfl⟩
  ·have he := gapAt_end hlt
   go_wp2
   go_ret
   rw [show gapAt s k0 = k from hg.symm.trans he]
   exact ⟨rfl, rfl⟩
end Go.Proofs.YtmapiiclmmmpbaaGreatDoor
/-! Layer 3: what stands between tokens. -/
namespace Go.Proofs.YtmapiiclmmmpbaaGreatDoor
open Go.RowKit
set_option maxRecDepth 100000 in
set_option maxHeartbeats 2000000 in
theorem between_any (s : ByteArray) (w : World) (hs : s.size ≤ maxLen) :
  Calls Tryz.prog 17 #[.string s] w fun e w' => e = .returned (.int .i64 (gapAt s 0)) ∧ w' = w := by
 have hl : s.size ≤ 9223372036854775807 := hs
 go_enter Tryz.func17, Tryz.ntmps17
 go_wp2
 go_loop [3, 5] (fun i _ => ∃ k : Nat, k ≤ s.size ∧ i = .int .i64 k ∧ gapAt s k = gapAt s 0) (fun i _ => s.size - (intOf i).toNat)
 case atStart => exact ⟨0, Nat.zero_le _, rfl, rfl⟩
 case round =>
  obtain ⟨k, hk, rfl, hg⟩ := hrel
  by_cases hlt : k < s.size
  ·have hkz : (k : Int) < (s.size : Int) := by omega
   have hP := fun W => Tryz.strings_HasPrefix (s.extract k s.size) ⟨#[47, 47]⟩ W
   rw [ext_drop] at hP
   have hI := fun W => Tryz.strings_IndexByte (s.extract k s.size) 10 W
   rw [ext_drop] at hI
   generalize hp : Lib.hasPrefix (s.data.toList.drop k) [47, 47] = pb at hP
   generalize hi : Lib.indexByte (s.data.toList.drop k) (10 : Int).toNat.toUInt8 = ib at hI
   replace hp := hide hp
   replace hi := hide hi
   cases pb with
   | false =>
    go_wp2_with (go_at_call 13; refine (hP _).mono ?_; rintro e w' ⟨rfl, rfl⟩)
    all_goals try simp only [beq_iff_eq, beq_eq_false_iff_ne, ne_eq] at *
    all_goals first
     | (have hw : wsB s[k] = true := (ws_iff _).2 (by omega)
        go_round
        case rel => exact ⟨k + 1, by omega, by go_num, (gapAt_ws hlt hw).trans hg⟩
        case measure => simp [intOf]; omega)
     | (have hw : wsB s[k] = false := by rw [← Bool.not_eq_true, ws_iff]; omega
        go_ret
        rw [show gapAt s 0 = k from hg.symm.trans (gapAt_stop hlt hw hp.out)]
        exact ⟨rfl, rfl⟩)
   | true =>
    by_cases hin : ib = -1
    ·subst hin
     have hz : (-1 : Int) < 0 := by omega
     go_wp2_with (first
      | (go_at_call 13; refine (hP _).mono ?_; rintro e w' ⟨rfl, rfl⟩)
      | (go_at_call 32; refine (hI _).mono ?_; rintro e w' ⟨rfl, rfl⟩))
     all_goals try simp only [beq_iff_eq, beq_eq_false_iff_ne, ne_eq] at *
     all_goals first
      | (have hw : wsB s[k] = true := (ws_iff _).2 (by omega)
         go_round
         case rel => exact ⟨k + 1, by omega, by go_num, (gapAt_ws hlt hw).trans hg⟩
         case measure => simp [intOf]; omega)
      | (go_ret
         rw [show gapAt s 0 = s.size from hg.symm.trans (gapAt_eof (Nat.le_of_lt hlt) hp.out hi.out)]
         exact ⟨rfl, rfl⟩)
    ·obtain ⟨n, hn1, hn2, hn3, hn4⟩ := gapAt_line (Nat.le_of_lt hlt) hp.out (show Lib.indexByte (s.data.toList.drop k) 10 ≠ -1 from fun e => hin (hi.out.symm.trans e))
     have hib : ib = (n : Int) := hi.out.symm.trans hn1
     subst hib
     have hz : ¬ ((n : Int) < 0) := by omega
     replace hn1 := hide hn1
     go_wp2_with (first
      | (go_at_call 13; refine (hP _).mono ?_; rintro e w' ⟨rfl, rfl⟩)
      | (go_at_call 32; refine (hI _).mono ?_; rintro e w' ⟨rfl, rfl⟩))
     all_goals try simp only [beq_iff_eq, beq_eq_false_iff_ne, ne_eq] at *
     all_goals first
      | (have hw : wsB s[k] = true := (ws_iff _).2 (by omega)
         go_round
         case rel => exact ⟨k + 1, by omega, by go_num, (gapAt_ws hlt hw).trans hg⟩
         case measure => simp [intOf]; omega)
      | (go_round
         case rel => exact ⟨k + n, by omega, by go_num, hn4.trans hg⟩
         case measure => simp [intOf]; omega)
  ·have he := gapAt_end hlt
   go_wp2
   go_ret
   rw [show gapAt s 0 = k from hg.symm.trans he]
   exact ⟨rfl, rfl⟩
end Go.Proofs.YtmapiiclmmmpbaaGreatDoor

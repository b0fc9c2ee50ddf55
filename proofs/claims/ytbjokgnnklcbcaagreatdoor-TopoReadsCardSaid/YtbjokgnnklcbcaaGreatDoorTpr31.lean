import Derived.Test.YtbjokgnnklcbcaaGreatDoorTpr28
import Derived.Test.YtbjokgnnklcbcaaGreatDoorTpr30
import Derived.Test.YtbjokgnnklcbcaaGreatDoorTpr10
set_option linter.all false
/-! Layer 3, the document's: a word as a number. -/
namespace Go.Proofs.YtbjokgnnklcbcaaGreatDoor
open Go.RowKit
/-- What the call of number hands back. -/
def numV3 : Except Int (Nat × Nat) → Value
 | .error n => .tuple #[.int .i64 0, .agg #[.int .u64 0, .int .u64 0], .int .i64 n]
 | .ok x => .tuple #[.int .i64 (x.1 : Int), .agg #[.int .u64 ((x.2 / 18446744073709551616 : Nat) : Int), .int .u64 ((x.2 % 18446744073709551616 : Nat) : Int)], .int .i64 0]
theorem index_at {l : List UInt8} {c : UInt8} {p : Nat} (hp : p < l.length) (hc : l[p] = c) (hn : c ∉ l.take p) : Lib.indexByte l c = (p : Int) := by
 induction l generalizing p with
 | nil => simp at hp
 | cons b r ih =>
  unfold Lib.indexByte
  cases p with
  | zero =>
   have : (b == c) = true := by simpa using hc
   rw [if_pos this]; rfl
  | succ p =>
   have hb : ¬ (b == c) = true := by
    intro h
    apply hn
    simp only [List.take_succ_cons, List.mem_cons]
    left
    exact (beq_iff_eq.1 h).symm
   have := ih (p := p) (by simpa using hp) (by simpa using hc) (fun h => hn (by simp only [List.take_succ_cons, List.mem_cons]; exact .inr h))
   rw [if_neg hb, this, if_neg (by simp)]
   rfl
theorem index_none {l : List UInt8} {c : UInt8} (hn : c ∉ l) : Lib.indexByte l c = -1 := by
 have h1 := Lib.indexByte_ge l c
 have h2 : ¬ 0 ≤ Lib.indexByte l c := fun h => hn ((index_mem l c).1 h)
 omega
theorem decV_succ {l : List UInt8} {j : Nat} (h : j < l.length) : decV (l.take (j + 1)) = decV (l.take j) * 10 + (l[j].toNat - 48) := by
 unfold decV
 rw [List.take_succ_eq_append_getElem h, List.foldl_append]
 rfl
theorem decV_lt {l : List UInt8} (h : l.all digB = true) (hl : l.length ≤ 3) : decV l < 1000 := by
 by_cases h0 : l = []
 ·rw [h0]; decide
 ·exact (parseB_digits h0 h hl).2
theorem two_boxes (w : World) (t t' : TypeId) : NBox ((w.alloc (.cells #[.int .u64 0, .int .u64 0] t)).alloc (.cells #[.int .u64 0, .int .u64 0] t')) w.heap.size 0 0 ∧ NBox ((w.alloc (.cells #[.int .u64 0, .int .u64 0] t)).alloc (.cells #[.int .u64 0, .int .u64 0] t')) (w.heap.size + 1) 0 0 ∧ Below w.heap.size w ((w.alloc (.cells #[.int .u64 0, .int .u64 0] t)).alloc (.cells #[.int .u64 0, .int .u64 0] t')) := by
 refine ⟨(NBox.new w 0 0 t).alloc _, ?_, ((Below.refl _ _).alloc (Nat.le_refl _) _).alloc (by simp) _⟩
 have := NBox.new (w.alloc (.cells #[.int .u64 0, .int .u64 0] t)) 0 0 t'
 rw [show (w.alloc (.cells #[.int .u64 0, .int .u64 0] t)).heap.size = w.heap.size + 1 from by simp] at this
 exact this
set_option maxRecDepth 100000 in
set_option maxHeartbeats 8000000 in
theorem number03_any (s : ByteArray) (w : World) (hs : s.size ≤ 2000000) (h0 : digB (s.data.toList.headD 0) = true) :
  Calls Tryz.prog 79 #[.string s] w fun e w' => e = .returned (numV3 (numR s.data.toList)) ∧ Below w.heap.size w w' := by
 have hl : s.size ≤ 9223372036854775807 := by omega
 obtain ⟨hb3, hb5, hbw⟩ := two_boxes w 62 62
 obtain ⟨RES, hRES⟩ : ∃ RES, RES = numR s.data.toList := ⟨_, rfl⟩
 rw [← hRES]
 have h0s : 0 < s.size := by
  rw [Lib.size_eq]
  cases h : s.data.toList with
  | nil => rw [h] at h0; exact absurd h0 (by decide)
  | cons _ _ => simp
 have hd0 : digB s[0] = true := by rw [← head_eq h0s]; exact h0
 replace hb3 := hide hb3
 replace hb5 := hide hb5
 replace hbw := hide hbw
 replace hRES := hide hRES
 clear h0
 go_enter Tryz.func79, Tryz.ntmps79
 go_upto_region 2 with (fail)
 generalize (w.alloc (.cells #[.int .u64 0, .int .u64 0] 62)).alloc (.cells #[.int .u64 0, .int .u64 0] 62) = w1 at hb3 hb5 hbw ⊢
 go_wp2
 go_loop [6, 7] (fun a i => ∃ j : Nat, j ≤ s.size ∧ i = .int .i64 j ∧ ((a = .int .i64 (-1) ∧ 119 ∉ s.data.toList.take j) ∨ ∃ p : Nat, a = .int .i64 p ∧ j = p + 1 ∧ s.data.toList[p]? = some 119 ∧ 119 ∉ s.data.toList.take p)) (fun _ i => s.size - (intOf i).toNat)
 case atStart => exact ⟨0, Nat.zero_le _, rfl, .inl ⟨rfl, by simp⟩⟩
 case round =>
  obtain ⟨j, hj, rfl, ⟨rfl, hno⟩ | ⟨p, rfl, rfl, hp, hno⟩⟩ := hrel
  ·by_cases hjl : j < s.size
   ·have hjz : (j : Int) < (s.size : Int) := by omega
    have hjl' : j < s.data.toList.length := by rw [← Lib.size_eq]; exact hjl
    have hcc := u8_iff s[j] 119
    obtain ⟨c, hc⟩ : ∃ c : Int, c = ((s[j].toNat : Nat) : Int) := ⟨_, rfl⟩
    have hix : ∀ W, (Instr.index 9 (.string s) (.int .i64 (j : Int))).run Tryz.prog W = .ok (.int .u8 c) W := fun W => by rw [hc]; exact index_str s j hjl hl W
    rw [← hc] at hcc
    replace hc := hide hc
    by_cases hq : s[j] = 119
    ·have hcb : (c == 119) = true := beq_iff_eq.2 (hcc.1 hq)
     have hg : s.data.toList[j]? = some 119 := by rw [List.getElem?_eq_getElem hjl']; congr 1
     replace hg := hide hg
     replace hno := hide hno
     clear hcc hq
     go_wp2
     go_round
     case rel => exact ⟨j + 1, by omega, by go_num, .inr ⟨j, rfl, rfl, hg.out, hno.out⟩⟩
     case measure => simp [intOf]; omega
    ·have hcb : (c == 119) = false := beq_eq_false_iff_ne.2 fun h => hq (hcc.2 h)
     have hno2 := hide (notMem_take_snoc hjl' hno (show ¬ s.data.toList[j] = 119 from hq))
     clear hcc hq
     replace hno := hide hno
     go_wp2
     go_round
     case rel => exact ⟨j + 1, by omega, by go_num, .inl ⟨rfl, hno2.out⟩⟩
     case measure => simp [intOf]; omega
   ·have hjz : ¬ (j : Int) < (s.size : Int) := by omega
    have hidx : Lib.indexByte s.data.toList 119 = -1 := index_none (by rw [List.take_of_length_le (by rw [← Lib.size_eq]; omega)] at hno; exact hno)
    have hrv := numR_thin hidx
    have hP := fun W => rparse_any s W hl
    unfold valR at hrv
    obtain ⟨R, hRe⟩ : ∃ R, R = parseR s.data.toList := ⟨_, rfl⟩
    rw [← hRe] at hrv hP
    have hq1 : (0 : Int) ≤ (s.size : Int) := by omega
    clear hno hidx h0s hd0
    cases R with
    | error n =>
     have hv := hide (show RES = .error n from by rw [hRES.out, hrv]; rfl)
     clear hrv hRES
     have hn45 := parseR_err hRe.symm
     have hn0 : ¬ n = 0 := by omega
     have hn0b : (n == 0) = false := beq_eq_false_iff_ne.2 hn0
     have hn0c : (n != 0) = true := bne_iff_ne.2 hn0
     clear hn45
     have hP' := hide (fun W => show Calls Tryz.prog 99 #[.string s] W fun e w' => e = .returned (.tuple #[.agg #[.int .u64 0, .int .u64 0], .int .i64 n]) ∧ Below W.heap.size W w' from hP W)
     clear hP
     replace hRe := hide hRe
     go_upto_region 20 with (go_at_call 99; refine (hP'.out _).mono ?_; rintro e w2 ⟨rfl, hb2⟩)
     have hbx := hb2.trans ((Below.refl w2.heap.size w2).alloc (Nat.le_refl _) (.cells #[.int .u64 0, .int .u64 0] 62) |>.mono hb2.size)
     obtain ⟨kl, k0, k1, g0, g1⟩ := hb3.out.below hbx hb3.out.lt
     obtain ⟨-, x0, x1, -, -⟩ := hb5.out.below hbx hb5.out.lt
     have hfx := hide (hbw.out.trans (hbx.mono hbw.out.size))
     clear hb2 hbx
     go_region
     all_goals
      go_wp2
      exact bodyPost_ret (v := .tuple #[.int .i64 0, .agg #[.int .u64 0, .int .u64 0], .int .i64 (n)]) (by simp [results, Tryz.results79, go_sem, k0, k1, kl]) rfl ⟨by rw [hv.out]; rfl, (by first | exact (below_set2 hfx.out (Nat.le_refl _) _ _).drew | exact below_set2 hfx.out (Nat.le_refl _) _ _)⟩
    | ok n =>
     have hnl := parseR_lt hRe.symm
     obtain ⟨nh, hnh⟩ : ∃ nh, nh = ((n / 18446744073709551616 : Nat) : Int) := ⟨_, rfl⟩
     obtain ⟨nl, hnl2⟩ : ∃ nl, nl = ((n % 18446744073709551616 : Nat) : Int) := ⟨_, rfl⟩
     have u1 : u64 nh := ⟨by omega, by unfold two128 at hnl; omega⟩
     have u2 : u64 nl := ⟨by omega, by omega⟩
     have hP' := hide (fun W => show Calls Tryz.prog 99 #[.string s] W fun e w' => e = .returned (.tuple #[.agg #[.int .u64 nh, .int .u64 nl], .int .i64 0]) ∧ Below W.heap.size W w' from by rw [hnh, hnl2]; exact hP W)
     clear hP
     replace hRe := hide hRe
     have hv := hide (show numV3 RES = .tuple #[.int .i64 0, .agg #[.int .u64 nh, .int .u64 nl], .int .i64 0] from by rw [hRES.out, hrv, hnh, hnl2]; rfl)
     clear hrv hRES hnh hnl2 u1 u2 hnl
     go_upto_region 23 with (go_at_call 99; refine (hP'.out _).mono ?_; rintro e w2 ⟨rfl, hb2⟩; obtain ⟨w3, hw3, hs3, hb3', hc3, hf3⟩ := box1 w2 #[.int .u64 nh, .int .u64 nl] 62; replace hs3 := hide hs3)
     have hbx := hb2.trans (hb3'.mono hb2.size)
     have hs3' := hs3.out
     have hl3 : w2.heap.size < w3.heap.size := by omega
     obtain ⟨kl, k0, k1, g0, g1⟩ := hb3.out.below hbx hb3.out.lt
     have x0 := hc3 0
     have x1 := hc3 1
     simp at x0 x1
     have hfx := hide (hbw.out.trans (hbx.mono hbw.out.size))
     clear hs3' hb2 hb3' hbx hc3 hf3
     go_region
     all_goals
      go_wp2
      exact bodyPost_ret (v := .tuple #[.int .i64 0, .agg #[.int .u64 nh, .int .u64 nl], .int .i64 0]) (by simp [results, Tryz.results79, go_sem, k0, k1, kl]) rfl ⟨by rw [hv.out], (by first | exact (below_set2 hfx.out (Nat.le_refl _) _ _).drew | exact below_set2 hfx.out (Nat.le_refl _) _ _)⟩
  ·have hpl : p < s.data.toList.length := (List.getElem?_eq_some_iff.1 hp).1
   have hidx : Lib.indexByte s.data.toList 119 = (p : Int) := index_at hpl (List.getElem?_eq_some_iff.1 hp).2 hno
   have hp0 : 0 < p := by
    rcases Nat.eq_zero_or_pos p with h | h
    ·subst h
     exfalso
     have e : s.data.toList[0]? = some s[0] := by rw [List.getElem?_eq_getElem hpl]; rfl
     rw [e] at hp
     injection hp with hp
     rw [hp] at hd0
     exact absurd hd0 (by decide)
    ·exact h
   have hrv := numR_wide hidx
   have hps : p < s.size := by omega
   have hp1 : (0 : Int) ≤ (p : Int) := by omega
   have hp2 : ¬ (p : Int) < 0 := by omega
   clear hidx hno hp hd0
   replace hrv := hide hrv
   go_upto_region 4 with (fail)
   go_cut [20] (fun b wx => b = .bool false ∧ wx = w1)
   case first =>
    by_cases hpe : p + 1 < s.size
    ·have hpz : (p : Int) + 1 < (s.size : Int) := by omega
     go_wp2
     go_meet
     exact ⟨rfl, rfl⟩
    ·have hpz : ¬ (p : Int) + 1 < (s.size : Int) := by omega
     go_wp2
     go_meet
     exact ⟨rfl, rfl⟩
   case rest =>
   obtain ⟨rfl, hcx⟩ := hcut
   replace hcx := hcx.symm
   subst hcx
   go_wp2
   go_loop [8, 9] (fun v i => ∃ j : Nat, j ≤ p ∧ i = .int .i64 j ∧ v = .int .i64 ((decV (s.data.toList.take j) : Nat) : Int) ∧ (s.data.toList.take j).all digB = true ∧ (0 < j → p ≤ 3)) (fun _ i => p - (intOf i).toNat)
   case atStart => exact ⟨0, Nat.zero_le _, rfl, rfl, rfl, fun h => absurd h (by omega)⟩
   case round =>
    obtain ⟨j, hjp, rfl, rfl, hall, h3⟩ := hrel
    have hjlen : (s.data.toList.take p).length = p := by rw [List.length_take]; omega
    by_cases hjl : j < p
    ·have hjz : (j : Int) < (p : Int) := by omega
     have hjs : j < s.size := by omega
     have hjl' : j < s.data.toList.length := by rw [← Lib.size_eq]; exact hjs
     have hdc := decV_succ hjl'
     have hal1 := fun (h : digB s[j] = true) => (all_take_yes hjl' hall (show digB s.data.toList[j] = true from h))
     have hbadv := fun (h : digB s[j] = false) => show RES = .error 4 from by
      rw [hRES.out, hrv.out, if_neg]
      rw [all_take_no (k := j) (by rw [hjlen]; exact hjl) (by rw [List.getElem_take]; exact h)]
      simp
     have hlong := fun (h : ¬ p ≤ 3) => show RES = .error 4 from by
      rw [hRES.out, hrv.out, if_neg]
      rw [hjlen, decide_eq_false h]
      simp
     have hdl := fun (h : p ≤ 3) => decV_lt hall (by rw [List.length_take]; omega)
     obtain ⟨c, hc⟩ : ∃ c : Int, c = ((s[j].toNat : Nat) : Int) := ⟨_, rfl⟩
     have hix : ∀ W, (Instr.index 9 (.string s) (.int .i64 (j : Int))).run Tryz.prog W = .ok (.int .u8 c) W := fun W => by rw [hc]; exact index_str s j hjs hl W
     have hdg : digB s[j] = digitB c := by rw [hc]; rfl
     have hD := hide (fun W => digit03_any c W)
     rw [← hdg] at hD
     have hcr : digB s[j] = true → 48 ≤ c ∧ c ≤ 57 ∧ (((s[j].toNat - 48 : Nat)) : Int) = c - 48 := fun h => by
      rw [hdg] at h
      unfold digitB at h
      rw [decide_eq_true_eq] at h
      omega
     have hdc' : decV (s.data.toList.take (j + 1)) = decV (s.data.toList.take j) * 10 + (s[j].toNat - 48) := hdc
     clear hdc hdg
     generalize digB s[j] = dg at hD hal1 hbadv hcr
     obtain ⟨dv, hdv⟩ : ∃ dv, dv = decV (s.data.toList.take j) := ⟨_, rfl⟩
     rw [← hdv]
     rw [← hdv] at hdc' hdl
     replace hdv := hide hdv
     replace hdc' := hide hdc'
     replace hc := hide hc
     replace hall := hide hall
     replace h3 := hide h3
     obtain ⟨kl, k0, k1, g0, g1⟩ := hb3.out
     obtain ⟨-, x0, x1, -, -⟩ := hb5.out
     have hfx := hbw
     cases dg with
     | false =>
      have hv := hide (hbadv rfl)
      clear hbadv hlong hdl hcr hal1 hrv hRES
      go_upto_region 14 with (go_at_call 77; refine (hD.out _).mono ?_; rintro e w' ⟨rfl, rfl⟩)
      go_region
      all_goals
       go_wp2
       exact bodyPost_ret (v := .tuple #[.int .i64 0, .agg #[.int .u64 0, .int .u64 0], .int .i64 (4)]) (by simp [results, Tryz.results79, go_sem, k0, k1, kl]) rfl ⟨by rw [hv.out]; rfl, (by first | exact (below_set2 hfx.out (Nat.le_refl _) _ _).drew | exact below_set2 hfx.out (Nat.le_refl _) _ _)⟩
     | true =>
      by_cases hp3 : p ≤ 3
      ·have hpz : ¬ (3 : Int) < (p : Int) := by omega
       have hdz := hdl hp3
       obtain ⟨c1, c2, c3⟩ := hcr rfl
       have hall2 := hide (hal1 rfl)
       clear hbadv hlong hdl hcr hal1 k0 k1 g0 g1 x0 x1 hfx kl
       replace c3 := hide c3
       go_wp2_with (go_at_call 77; refine (hD.out _).mono ?_; rintro e w' ⟨rfl, rfl⟩)
       go_round
       case rel => exact ⟨j + 1, by omega, by go_num, by rw [hdc'.out]; congr 1; have := c3.out; omega, hall2.out, fun _ => hp3⟩
       case measure => simp [intOf]; omega
      ·have hpz : (3 : Int) < (p : Int) := by omega
       have hv := hide (hlong hp3)
       clear hbadv hlong hdl hcr hal1 hrv hRES
       go_upto_region 14 with (go_at_call 77; refine (hD.out _).mono ?_; rintro e w' ⟨rfl, rfl⟩)
       go_region
       all_goals
        go_wp2
        exact bodyPost_ret (v := .tuple #[.int .i64 0, .agg #[.int .u64 0, .int .u64 0], .int .i64 (4)]) (by simp [results, Tryz.results79, go_sem, k0, k1, kl]) rfl ⟨by rw [hv.out]; rfl, (by first | exact (below_set2 hfx.out (Nat.le_refl _) _ _).drew | exact below_set2 hfx.out (Nat.le_refl _) _ _)⟩
    ·obtain rfl : j = p := by omega
     have hp3 := h3 hp0
     have hrv2 := hrv.out
     rw [hall, hjlen, decide_eq_true hp3, Bool.and_self, if_pos rfl] at hrv2
     have hd1 := decV_lt hall (by rw [hjlen]; exact hp3)
     obtain ⟨d, hd⟩ : ∃ d, d = decV (s.data.toList.take j) := ⟨_, rfl⟩
     rw [← hd] at hrv2 hd1 ⊢
     replace hd := hide hd
     have hj1 : (0 : Int) ≤ (j : Int) + 1 := by omega
     have hj2 : ((j : Int) + 1).toNat = j + 1 := by omega
     have hj3 : (j : Int) + 1 ≤ (s.size : Int) := by omega
     obtain ⟨kl, k0, k1, g0, g1⟩ := hb3.out
     obtain ⟨-, x0, x1, -, -⟩ := hb5.out
     have hfx := hbw
     clear hrv hall h3 hjlen
     by_cases hbd : d < 1 ∨ 128 < d
     ·rw [if_pos hbd] at hrv2
      have hv := hide (show RES = .error 10 from hRES.out.trans hrv2)
      clear hrv2 hRES
      rcases hbd with hbd | hbd
      ·have hz1 : (d : Int) < 1 := by omega
       go_upto_region 17 with (fail)
       go_region
       all_goals
        go_wp2
        exact bodyPost_ret (v := .tuple #[.int .i64 0, .agg #[.int .u64 0, .int .u64 0], .int .i64 (10)]) (by simp [results, Tryz.results79, go_sem, k0, k1, kl]) rfl ⟨by rw [hv.out]; rfl, (by first | exact (below_set2 hfx.out (Nat.le_refl _) _ _).drew | exact below_set2 hfx.out (Nat.le_refl _) _ _)⟩
      ·have hz1 : ¬ (d : Int) < 1 := by omega
       have hz2 : (128 : Int) < (d : Int) := by omega
       go_upto_region 17 with (fail)
       go_region
       all_goals
        go_wp2
        exact bodyPost_ret (v := .tuple #[.int .i64 0, .agg #[.int .u64 0, .int .u64 0], .int .i64 (10)]) (by simp [results, Tryz.results79, go_sem, k0, k1, kl]) rfl ⟨by rw [hv.out]; rfl, (by first | exact (below_set2 hfx.out (Nat.le_refl _) _ _).drew | exact below_set2 hfx.out (Nat.le_refl _) _ _)⟩
     ·rw [if_neg hbd] at hrv2
      have hz1 : ¬ (d : Int) < 1 := by omega
      have hz2 : ¬ (128 : Int) < (d : Int) := by omega
      have hd128 : d ≤ 128 ∧ 1 ≤ d := by omega
      clear kl k0 k1 g0 g1 x0 x1 hfx hbd
      have hP := fun W => rparse_any (s.extract (j + 1) s.size) W (by rw [ByteArray.size_extract]; omega)
      rw [ext_drop] at hP
      unfold valR at hrv2
      obtain ⟨R, hRe⟩ : ∃ R, R = parseR (s.data.toList.drop (j + 1)) := ⟨_, rfl⟩
      rw [← hRe] at hrv2 hP
      cases R with
      | error n =>
       have hv := hide (show RES = .error n from by rw [hRES.out, hrv2]; rfl)
       clear hrv2 hRES
       have hn45 := parseR_err hRe.symm
       have hn0 : ¬ n = 0 := by omega
       have hn0b : (n == 0) = false := beq_eq_false_iff_ne.2 hn0
       have hn0c : (n != 0) = true := bne_iff_ne.2 hn0
       clear hn45
       have hP' := hide (fun W => show Calls Tryz.prog 99 #[.string (s.extract (j + 1) s.size)] W fun e w' => e = .returned (.tuple #[.agg #[.int .u64 0, .int .u64 0], .int .i64 n]) ∧ Below W.heap.size W w' from hP W)
       clear hP
       replace hRe := hide hRe
       go_upto_region 20 with (go_at_call 99; refine (hP'.out _).mono ?_; rintro e w2 ⟨rfl, hb2⟩)
       have hbx := hb2.trans ((Below.refl w2.heap.size w2).alloc (Nat.le_refl _) (.cells #[.int .u64 0, .int .u64 0] 62) |>.mono hb2.size)
       obtain ⟨kl, k0, k1, g0, g1⟩ := hb3.out.below hbx hb3.out.lt
       obtain ⟨-, x0, x1, -, -⟩ := hb5.out.below hbx hb5.out.lt
       have hfx := hide (hbw.out.trans (hbx.mono hbw.out.size))
       clear hb2 hbx
       go_region
       all_goals
        go_wp2
        exact bodyPost_ret (v := .tuple #[.int .i64 0, .agg #[.int .u64 0, .int .u64 0], .int .i64 (n)]) (by simp [results, Tryz.results79, go_sem, k0, k1, kl]) rfl ⟨by rw [hv.out]; rfl, (by first | exact (below_set2 hfx.out (Nat.le_refl _) _ _).drew | exact below_set2 hfx.out (Nat.le_refl _) _ _)⟩
      | ok n =>
       have hnl := parseR_lt hRe.symm
       obtain ⟨nh, hnh⟩ : ∃ nh, nh = ((n / 18446744073709551616 : Nat) : Int) := ⟨_, rfl⟩
       obtain ⟨nl, hnl2⟩ : ∃ nl, nl = ((n % 18446744073709551616 : Nat) : Int) := ⟨_, rfl⟩
       have u1 : u64 nh := ⟨by omega, by unfold two128 at hnl; omega⟩
       have u2 : u64 nl := ⟨by omega, by omega⟩
       have hP' := hide (fun W => show Calls Tryz.prog 99 #[.string (s.extract (j + 1) s.size)] W fun e w' => e = .returned (.tuple #[.agg #[.int .u64 nh, .int .u64 nl], .int .i64 0]) ∧ Below W.heap.size W w' from by rw [hnh, hnl2]; exact hP W)
       clear hP
       replace hRe := hide hRe
       have hF := fitN_nat d n
       rw [← hnh, ← hnl2] at hF
       have hFt := fun W => fits01_all nh nl (d : Int) W ⟨u1, u2⟩
       rw [hF] at hFt
       have hrv3 : RES = if true && !decide (n < 2 ^ d) then .error 5 else .ok (d, n) := by rw [hRES.out, hrv2]; rfl
       cases hft : decide (n < 2 ^ d) with
       | false =>
        rw [hft] at hrv3 hFt
        have hv := hide (show RES = .error 5 from hrv3)
        clear hrv2 hrv3 hRES hF hnh hnl2 u1 u2 hnl
        replace hFt := hide hFt
        go_upto_region 22 with (first | (go_at_call 99; refine (hP'.out _).mono ?_; rintro e w2 ⟨rfl, hb2⟩; obtain ⟨w3, hw3, hs3, hb3', hc3, hf3⟩ := box1 w2 #[.int .u64 nh, .int .u64 nl] 62; have y0 := hc3 0; have y1 := hc3 1; simp at y0 y1; replace hs3 := hide hs3) | (go_at_call 100; refine (hFt.out _).mono ?_; rintro e w4 ⟨rfl, hb4⟩))
        have hbx := (hb2.trans (hb3'.mono hb2.size)).trans (hb4.mono (Nat.le_trans hb2.size hb3'.size))
        obtain ⟨kl, k0, k1, g0, g1⟩ := hb3.out.below hbx hb3.out.lt
        obtain ⟨-, x0, x1, -, -⟩ := hb5.out.below hbx hb5.out.lt
        have hfx := hide (hbw.out.trans (hbx.mono hbw.out.size))
        clear hb2 hb3' hb4 hbx hc3 hf3
        go_region
        all_goals
         go_wp2
         exact bodyPost_ret (v := .tuple #[.int .i64 0, .agg #[.int .u64 0, .int .u64 0], .int .i64 (5)]) (by simp [results, Tryz.results79, go_sem, k0, k1, kl]) rfl ⟨by rw [hv.out]; rfl, (by first | exact (below_set2 hfx.out (Nat.le_refl _) _ _).drew | exact below_set2 hfx.out (Nat.le_refl _) _ _)⟩
       | true =>
        rw [hft] at hrv3 hFt
        have hv := hide (show numV3 RES = .tuple #[.int .i64 (d : Int), .agg #[.int .u64 nh, .int .u64 nl], .int .i64 0] from by rw [hrv3, hnh, hnl2]; rfl)
        clear hrv2 hrv3 hRES hF hnh hnl2 u1 u2 hnl
        replace hFt := hide hFt
        go_upto_region 23 with (first | (go_at_call 99; refine (hP'.out _).mono ?_; rintro e w2 ⟨rfl, hb2⟩; obtain ⟨w3, hw3, hs3, hb3', hc3, hf3⟩ := box1 w2 #[.int .u64 nh, .int .u64 nl] 62; have y0 := hc3 0; have y1 := hc3 1; simp at y0 y1; replace hs3 := hide hs3) | (go_at_call 100; refine (hFt.out _).mono ?_; rintro e w4 ⟨rfl, hb4⟩))
        have hs3' := hs3.out
        have hl3 : w2.heap.size < w3.heap.size := by omega
        have hl4 := Nat.lt_of_lt_of_le hl3 hb4.size
        have hbx := (hb2.trans (hb3'.mono hb2.size)).trans (hb4.mono (Nat.le_trans hb2.size hb3'.size))
        have kb4 := bcell' hb4
        have x0 := (kb4.1 _ 0 hl3).trans y0
        have x1 := (kb4.1 _ 1 hl3).trans y1
        obtain ⟨kl, k0, k1, g0, g1⟩ := hb3.out.below hbx hb3.out.lt
        have hfx := hide (hbw.out.trans (hbx.mono hbw.out.size))
        clear hs3' hb2 hb3' hb4 hbx hc3 hf3 kb4
        go_region
        all_goals
         go_wp2
         exact bodyPost_ret (v := .tuple #[.int .i64 (d : Int), .agg #[.int .u64 nh, .int .u64 nl], .int .i64 0]) (by simp [results, Tryz.results79, go_sem, k0, k1, kl]) rfl ⟨by rw [hv.out], (by first | exact (below_set2 hfx.out (Nat.le_refl _) _ _).drew | exact below_set2 hfx.out (Nat.le_refl _) _ _)⟩
end Go.Proofs.YtbjokgnnklcbcaaGreatDoor

import Derived.Test.YtbjokgnnklcbcaaGreatDoorTpb04
set_option linter.all false
/-! Printed by gen_mark.py. Layer 3: marks. -/
namespace Go.Proofs.YtbjokgnnklcbcaaGreatDoor
open Go.RowKit
/-- A call that gives up by an error's number. -/
abbrev perr (n : Int) : Ending := .panicked [{ v := .iface 28 (.int .i64 n), recovered := false }]
attribute [local go_sem] run_panic_iface
set_option maxRecDepth 100000 in
set_option maxHeartbeats 8000000 in
theorem mark_any (s : ByteArray) (w : World) (h0 : 0 < s.size) :
  Calls Tryz.prog 70 #[.string s] w fun e w' => w' = w ∧ ((markL s.data.toList = [] ∧ e = perr 4) ∨ (∃ m : ByteArray, m.data.toList = markL s.data.toList ∧ markL s.data.toList ≠ [] ∧ e = .returned (.string m))) := by
 have hz : (0 : Int) < (s.size : Int) := by omega
 have h1 : (1 : Int) ≤ (s.size : Int) := by omega
 have h1n : 1 ≤ s.size := h0
 have hP := hide (fun p W => Tryz.strings_HasPrefix s p W)
 have hC := hide (fun W => Tryz.strings_Contains_one ⟨#[123, 125, 40, 41, 91, 93, 59, 58, 44, 61, 60, 62, 43, 45, 38, 124, 94, 126, 33, 46, 47]⟩ s[0] W)
 rw [← ext_one h0] at hC
 go_enter Tryz.func70, Tryz.ntmps70
 go_wp2
 go_loop [4, 6] (fun _ i => ∃ k : Nat, k ≤ 11 ∧ i = .int .i64 k ∧ Hid (markF (longMarks.drop k) s.data.toList = markL s.data.toList)) (fun _ i => 11 - (intOf i).toNat)
 case atStart => exact ⟨0, Nat.zero_le _, rfl, hide rfl⟩
 case round =>
  obtain ⟨k, hk, rfl, hm⟩ := hrel
  by_cases hlt : k < 11
  ·rcases (show k = 0 ∨ k = 1 ∨ k = 2 ∨ k = 3 ∨ k = 4 ∨ k = 5 ∨ k = 6 ∨ k = 7 ∨ k = 8 ∨ k = 9 ∨ k = 10 from by omega) with rfl | rfl | rfl | rfl | rfl | rfl | rfl | rfl | rfl | rfl | rfl
   ·have hx : ∀ W, (Instr.index 119 (.agg #[.string ⟨#[38, 38, 38]⟩, .string ⟨#[61, 61]⟩, .string ⟨#[33, 61]⟩, .string ⟨#[60, 61]⟩, .string ⟨#[62, 61]⟩, .string ⟨#[60, 60]⟩, .string ⟨#[62, 62]⟩, .string ⟨#[38, 38]⟩, .string ⟨#[124, 124]⟩, .string ⟨#[43, 43]⟩, .string ⟨#[45, 62]⟩]) (.int .i64 0)).run Tryz.prog W = .ok (.string ⟨#[38, 38, 38]⟩) W := fun _ => by kernel_rfl
    have hm1 := hide (show (if Lib.hasPrefix s.data.toList [38, 38, 38] then [38, 38, 38] else markF (longMarks.drop 1) s.data.toList) = markL s.data.toList from hm.out)
    cases hb : Lib.hasPrefix s.data.toList [38, 38, 38] with
    | true =>
     have hq := fun W => hP.out ⟨#[38, 38, 38]⟩ W
     simp only [hb] at hq
     have he : markL s.data.toList = [38, 38, 38] := by rw [← hm1.out, hb]; rfl
     replace he := hide he
     replace hb := hide hb
     go_wp2_with (go_at_call 68; refine (hq _).mono ?_; rintro e w' ⟨rfl, rfl⟩)
     go_ret
     exact ⟨rfl, .inr ⟨⟨#[38, 38, 38]⟩, he.out.symm, by rw [he.out]; simp, rfl⟩⟩
    | false =>
     have hq := fun W => hP.out ⟨#[38, 38, 38]⟩ W
     simp only [hb] at hq
     have he : markF (longMarks.drop 1) s.data.toList = markL s.data.toList := by rw [← hm1.out, hb]; rfl
     replace he := hide he
     replace hb := hide hb
     go_wp2_with (go_at_call 68; refine (hq _).mono ?_; rintro e w' ⟨rfl, rfl⟩)
     go_round
     case rel => exact ⟨1, by omega, rfl, he⟩
     case measure => simp [intOf]
   ·have hx : ∀ W, (Instr.index 119 (.agg #[.string ⟨#[38, 38, 38]⟩, .string ⟨#[61, 61]⟩, .string ⟨#[33, 61]⟩, .string ⟨#[60, 61]⟩, .string ⟨#[62, 61]⟩, .string ⟨#[60, 60]⟩, .string ⟨#[62, 62]⟩, .string ⟨#[38, 38]⟩, .string ⟨#[124, 124]⟩, .string ⟨#[43, 43]⟩, .string ⟨#[45, 62]⟩]) (.int .i64 1)).run Tryz.prog W = .ok (.string ⟨#[61, 61]⟩) W := fun _ => by kernel_rfl
    have hm1 := hide (show (if Lib.hasPrefix s.data.toList [61, 61] then [61, 61] else markF (longMarks.drop 2) s.data.toList) = markL s.data.toList from hm.out)
    cases hb : Lib.hasPrefix s.data.toList [61, 61] with
    | true =>
     have hq := fun W => hP.out ⟨#[61, 61]⟩ W
     simp only [hb] at hq
     have he : markL s.data.toList = [61, 61] := by rw [← hm1.out, hb]; rfl
     replace he := hide he
     replace hb := hide hb
     go_wp2_with (go_at_call 68; refine (hq _).mono ?_; rintro e w' ⟨rfl, rfl⟩)
     go_ret
     exact ⟨rfl, .inr ⟨⟨#[61, 61]⟩, he.out.symm, by rw [he.out]; simp, rfl⟩⟩
    | false =>
     have hq := fun W => hP.out ⟨#[61, 61]⟩ W
     simp only [hb] at hq
     have he : markF (longMarks.drop 2) s.data.toList = markL s.data.toList := by rw [← hm1.out, hb]; rfl
     replace he := hide he
     replace hb := hide hb
     go_wp2_with (go_at_call 68; refine (hq _).mono ?_; rintro e w' ⟨rfl, rfl⟩)
     go_round
     case rel => exact ⟨2, by omega, rfl, he⟩
     case measure => simp [intOf]
   ·have hx : ∀ W, (Instr.index 119 (.agg #[.string ⟨#[38, 38, 38]⟩, .string ⟨#[61, 61]⟩, .string ⟨#[33, 61]⟩, .string ⟨#[60, 61]⟩, .string ⟨#[62, 61]⟩, .string ⟨#[60, 60]⟩, .string ⟨#[62, 62]⟩, .string ⟨#[38, 38]⟩, .string ⟨#[124, 124]⟩, .string ⟨#[43, 43]⟩, .string ⟨#[45, 62]⟩]) (.int .i64 2)).run Tryz.prog W = .ok (.string ⟨#[33, 61]⟩) W := fun _ => by kernel_rfl
    have hm1 := hide (show (if Lib.hasPrefix s.data.toList [33, 61] then [33, 61] else markF (longMarks.drop 3) s.data.toList) = markL s.data.toList from hm.out)
    cases hb : Lib.hasPrefix s.data.toList [33, 61] with
    | true =>
     have hq := fun W => hP.out ⟨#[33, 61]⟩ W
     simp only [hb] at hq
     have he : markL s.data.toList = [33, 61] := by rw [← hm1.out, hb]; rfl
     replace he := hide he
     replace hb := hide hb
     go_wp2_with (go_at_call 68; refine (hq _).mono ?_; rintro e w' ⟨rfl, rfl⟩)
     go_ret
     exact ⟨rfl, .inr ⟨⟨#[33, 61]⟩, he.out.symm, by rw [he.out]; simp, rfl⟩⟩
    | false =>
     have hq := fun W => hP.out ⟨#[33, 61]⟩ W
     simp only [hb] at hq
     have he : markF (longMarks.drop 3) s.data.toList = markL s.data.toList := by rw [← hm1.out, hb]; rfl
     replace he := hide he
     replace hb := hide hb
     go_wp2_with (go_at_call 68; refine (hq _).mono ?_; rintro e w' ⟨rfl, rfl⟩)
     go_round
     case rel => exact ⟨3, by omega, rfl, he⟩
     case measure => simp [intOf]
   ·have hx : ∀ W, (Instr.index 119 (.agg #[.string ⟨#[38, 38, 38]⟩, .string ⟨#[61, 61]⟩, .string ⟨#[33, 61]⟩, .string ⟨#[60, 61]⟩, .string ⟨#[62, 61]⟩, .string ⟨#[60, 60]⟩, .string ⟨#[62, 62]⟩, .string ⟨#[38, 38]⟩, .string ⟨#[124, 124]⟩, .string ⟨#[43, 43]⟩, .string ⟨#[45, 62]⟩]) (.int .i64 3)).run Tryz.prog W = .ok (.string ⟨#[60, 61]⟩) W := fun _ => by kernel_rfl
    have hm1 := hide (show (if Lib.hasPrefix s.data.toList [60, 61] then [60, 61] else markF (longMarks.drop 4) s.data.toList) = markL s.data.toList from hm.out)
    cases hb : Lib.hasPrefix s.data.toList [60, 61] with
    | true =>
     have hq := fun W => hP.out ⟨#[60, 61]⟩ W
     simp only [hb] at hq
     have he : markL s.data.toList = [60, 61] := by rw [← hm1.out, hb]; rfl
     replace he := hide he
     replace hb := hide hb
     go_wp2_with (go_at_call 68; refine (hq _).mono ?_; rintro e w' ⟨rfl, rfl⟩)
     go_ret
     exact ⟨rfl, .inr ⟨⟨#[60, 61]⟩, he.out.symm, by rw [he.out]; simp, rfl⟩⟩
    | false =>
     have hq := fun W => hP.out ⟨#[60, 61]⟩ W
     simp only [hb] at hq
     have he : markF (longMarks.drop 4) s.data.toList = markL s.data.toList := by rw [← hm1.out, hb]; rfl
     replace he := hide he
     replace hb := hide hb
     go_wp2_with (go_at_call 68; refine (hq _).mono ?_; rintro e w' ⟨rfl, rfl⟩)
     go_round
     case rel => exact ⟨4, by omega, rfl, he⟩
     case measure => simp [intOf]
   ·have hx : ∀ W, (Instr.index 119 (.agg #[.string ⟨#[38, 38, 38]⟩, .string ⟨#[61, 61]⟩, .string ⟨#[33, 61]⟩, .string ⟨#[60, 61]⟩, .string ⟨#[62, 61]⟩, .string ⟨#[60, 60]⟩, .string ⟨#[62, 62]⟩, .string ⟨#[38, 38]⟩, .string ⟨#[124, 124]⟩, .string ⟨#[43, 43]⟩, .string ⟨#[45, 62]⟩]) (.int .i64 4)).run Tryz.prog W = .ok (.string ⟨#[62, 61]⟩) W := fun _ => by kernel_rfl
    have hm1 := hide (show (if Lib.hasPrefix s.data.toList [62, 61] then [62, 61] else markF (longMarks.drop 5) s.data.toList) = markL s.data.toList from hm.out)
    cases hb : Lib.hasPrefix s.data.toList [62, 61] with
    | true =>
     have hq := fun W => hP.out ⟨#[62, 61]⟩ W
     simp only [hb] at hq
     have he : markL s.data.toList = [62, 61] := by rw [← hm1.out, hb]; rfl
     replace he := hide he
     replace hb := hide hb
     go_wp2_with (go_at_call 68; refine (hq _).mono ?_; rintro e w' ⟨rfl, rfl⟩)
     go_ret
     exact ⟨rfl, .inr ⟨⟨#[62, 61]⟩, he.out.symm, by rw [he.out]; simp, rfl⟩⟩
    | false =>
     have hq := fun W => hP.out ⟨#[62, 61]⟩ W
     simp only [hb] at hq
     have he : markF (longMarks.drop 5) s.data.toList = markL s.data.toList := by rw [← hm1.out, hb]; rfl
     replace he := hide he
     replace hb := hide hb
     go_wp2_with (go_at_call 68; refine (hq _).mono ?_; rintro e w' ⟨rfl, rfl⟩)
     go_round
     case rel => exact ⟨5, by omega, rfl, he⟩
     case measure => simp [intOf]
   ·have hx : ∀ W, (Instr.index 119 (.agg #[.string ⟨#[38, 38, 38]⟩, .string ⟨#[61, 61]⟩, .string ⟨#[33, 61]⟩, .string ⟨#[60, 61]⟩, .string ⟨#[62, 61]⟩, .string ⟨#[60, 60]⟩, .string ⟨#[62, 62]⟩, .string ⟨#[38, 38]⟩, .string ⟨#[124, 124]⟩, .string ⟨#[43, 43]⟩, .string ⟨#[45, 62]⟩]) (.int .i64 5)).run Tryz.prog W = .ok (.string ⟨#[60, 60]⟩) W := fun _ => by kernel_rfl
    have hm1 := hide (show (if Lib.hasPrefix s.data.toList [60, 60] then [60, 60] else markF (longMarks.drop 6) s.data.toList) = markL s.data.toList from hm.out)
    cases hb : Lib.hasPrefix s.data.toList [60, 60] with
    | true =>
     have hq := fun W => hP.out ⟨#[60, 60]⟩ W
     simp only [hb] at hq
     have he : markL s.data.toList = [60, 60] := by rw [← hm1.out, hb]; rfl
     replace he := hide he
     replace hb := hide hb
     go_wp2_with (go_at_call 68; refine (hq _).mono ?_; rintro e w' ⟨rfl, rfl⟩)
     go_ret
     exact ⟨rfl, .inr ⟨⟨#[60, 60]⟩, he.out.symm, by rw [he.out]; simp, rfl⟩⟩
    | false =>
     have hq := fun W => hP.out ⟨#[60, 60]⟩ W
     simp only [hb] at hq
     have he : markF (longMarks.drop 6) s.data.toList = markL s.data.toList := by rw [← hm1.out, hb]; rfl
     replace he := hide he
     replace hb := hide hb
     go_wp2_with (go_at_call 68; refine (hq _).mono ?_; rintro e w' ⟨rfl, rfl⟩)
     go_round
     case rel => exact ⟨6, by omega, rfl, he⟩
     case measure => simp [intOf]
   ·have hx : ∀ W, (Instr.index 119 (.agg #[.string ⟨#[38, 38, 38]⟩, .string ⟨#[61, 61]⟩, .string ⟨#[33, 61]⟩, .string ⟨#[60, 61]⟩, .string ⟨#[62, 61]⟩, .string ⟨#[60, 60]⟩, .string ⟨#[62, 62]⟩, .string ⟨#[38, 38]⟩, .string ⟨#[124, 124]⟩, .string ⟨#[43, 43]⟩, .string ⟨#[45, 62]⟩]) (.int .i64 6)).run Tryz.prog W = .ok (.string ⟨#[62, 62]⟩) W := fun _ => by kernel_rfl
    have hm1 := hide (show (if Lib.hasPrefix s.data.toList [62, 62] then [62, 62] else markF (longMarks.drop 7) s.data.toList) = markL s.data.toList from hm.out)
    cases hb : Lib.hasPrefix s.data.toList [62, 62] with
    | true =>
     have hq := fun W => hP.out ⟨#[62, 62]⟩ W
     simp only [hb] at hq
     have he : markL s.data.toList = [62, 62] := by rw [← hm1.out, hb]; rfl
     replace he := hide he
     replace hb := hide hb
     go_wp2_with (go_at_call 68; refine (hq _).mono ?_; rintro e w' ⟨rfl, rfl⟩)
     go_ret
     exact ⟨rfl, .inr ⟨⟨#[62, 62]⟩, he.out.symm, by rw [he.out]; simp, rfl⟩⟩
    | false =>
     have hq := fun W => hP.out ⟨#[62, 62]⟩ W
     simp only [hb] at hq
     have he : markF (longMarks.drop 7) s.data.toList = markL s.data.toList := by rw [← hm1.out, hb]; rfl
     replace he := hide he
     replace hb := hide hb
     go_wp2_with (go_at_call 68; refine (hq _).mono ?_; rintro e w' ⟨rfl, rfl⟩)
     go_round
     case rel => exact ⟨7, by omega, rfl, he⟩
     case measure => simp [intOf]
   ·have hx : ∀ W, (Instr.index 119 (.agg #[.string ⟨#[38, 38, 38]⟩, .string ⟨#[61, 61]⟩, .string ⟨#[33, 61]⟩, .string ⟨#[60, 61]⟩, .string ⟨#[62, 61]⟩, .string ⟨#[60, 60]⟩, .string ⟨#[62, 62]⟩, .string ⟨#[38, 38]⟩, .string ⟨#[124, 124]⟩, .string ⟨#[43, 43]⟩, .string ⟨#[45, 62]⟩]) (.int .i64 7)).run Tryz.prog W = .ok (.string ⟨#[38, 38]⟩) W := fun _ => by kernel_rfl
    have hm1 := hide (show (if Lib.hasPrefix s.data.toList [38, 38] then [38, 38] else markF (longMarks.drop 8) s.data.toList) = markL s.data.toList from hm.out)
    cases hb : Lib.hasPrefix s.data.toList [38, 38] with
    | true =>
     have hq := fun W => hP.out ⟨#[38, 38]⟩ W
     simp only [hb] at hq
     have he : markL s.data.toList = [38, 38] := by rw [← hm1.out, hb]; rfl
     replace he := hide he
     replace hb := hide hb
     go_wp2_with (go_at_call 68; refine (hq _).mono ?_; rintro e w' ⟨rfl, rfl⟩)
     go_ret
     exact ⟨rfl, .inr ⟨⟨#[38, 38]⟩, he.out.symm, by rw [he.out]; simp, rfl⟩⟩
    | false =>
     have hq := fun W => hP.out ⟨#[38, 38]⟩ W
     simp only [hb] at hq
     have he : markF (longMarks.drop 8) s.data.toList = markL s.data.toList := by rw [← hm1.out, hb]; rfl
     replace he := hide he
     replace hb := hide hb
     go_wp2_with (go_at_call 68; refine (hq _).mono ?_; rintro e w' ⟨rfl, rfl⟩)
     go_round
     case rel => exact ⟨8, by omega, rfl, he⟩
     case measure => simp [intOf]
   ·have hx : ∀ W, (Instr.index 119 (.agg #[.string ⟨#[38, 38, 38]⟩, .string ⟨#[61, 61]⟩, .string ⟨#[33, 61]⟩, .string ⟨#[60, 61]⟩, .string ⟨#[62, 61]⟩, .string ⟨#[60, 60]⟩, .string ⟨#[62, 62]⟩, .string ⟨#[38, 38]⟩, .string ⟨#[124, 124]⟩, .string ⟨#[43, 43]⟩, .string ⟨#[45, 62]⟩]) (.int .i64 8)).run Tryz.prog W = .ok (.string ⟨#[124, 124]⟩) W := fun _ => by kernel_rfl
    have hm1 := hide (show (if Lib.hasPrefix s.data.toList [124, 124] then [124, 124] else markF (longMarks.drop 9) s.data.toList) = markL s.data.toList from hm.out)
    cases hb : Lib.hasPrefix s.data.toList [124, 124] with
    | true =>
     have hq := fun W => hP.out ⟨#[124, 124]⟩ W
     simp only [hb] at hq
     have he : markL s.data.toList = [124, 124] := by rw [← hm1.out, hb]; rfl
     replace he := hide he
     replace hb := hide hb
     go_wp2_with (go_at_call 68; refine (hq _).mono ?_; rintro e w' ⟨rfl, rfl⟩)
     go_ret
     exact ⟨rfl, .inr ⟨⟨#[124, 124]⟩, he.out.symm, by rw [he.out]; simp, rfl⟩⟩
    | false =>
     have hq := fun W => hP.out ⟨#[124, 124]⟩ W
     simp only [hb] at hq
     have he : markF (longMarks.drop 9) s.data.toList = markL s.data.toList := by rw [← hm1.out, hb]; rfl
     replace he := hide he
     replace hb := hide hb
     go_wp2_with (go_at_call 68; refine (hq _).mono ?_; rintro e w' ⟨rfl, rfl⟩)
     go_round
     case rel => exact ⟨9, by omega, rfl, he⟩
     case measure => simp [intOf]
   ·have hx : ∀ W, (Instr.index 119 (.agg #[.string ⟨#[38, 38, 38]⟩, .string ⟨#[61, 61]⟩, .string ⟨#[33, 61]⟩, .string ⟨#[60, 61]⟩, .string ⟨#[62, 61]⟩, .string ⟨#[60, 60]⟩, .string ⟨#[62, 62]⟩, .string ⟨#[38, 38]⟩, .string ⟨#[124, 124]⟩, .string ⟨#[43, 43]⟩, .string ⟨#[45, 62]⟩]) (.int .i64 9)).run Tryz.prog W = .ok (.string ⟨#[43, 43]⟩) W := fun _ => by kernel_rfl
    have hm1 := hide (show (if Lib.hasPrefix s.data.toList [43, 43] then [43, 43] else markF (longMarks.drop 10) s.data.toList) = markL s.data.toList from hm.out)
    cases hb : Lib.hasPrefix s.data.toList [43, 43] with
    | true =>
     have hq := fun W => hP.out ⟨#[43, 43]⟩ W
     simp only [hb] at hq
     have he : markL s.data.toList = [43, 43] := by rw [← hm1.out, hb]; rfl
     replace he := hide he
     replace hb := hide hb
     go_wp2_with (go_at_call 68; refine (hq _).mono ?_; rintro e w' ⟨rfl, rfl⟩)
     go_ret
     exact ⟨rfl, .inr ⟨⟨#[43, 43]⟩, he.out.symm, by rw [he.out]; simp, rfl⟩⟩
    | false =>
     have hq := fun W => hP.out ⟨#[43, 43]⟩ W
     simp only [hb] at hq
     have he : markF (longMarks.drop 10) s.data.toList = markL s.data.toList := by rw [← hm1.out, hb]; rfl
     replace he := hide he
     replace hb := hide hb
     go_wp2_with (go_at_call 68; refine (hq _).mono ?_; rintro e w' ⟨rfl, rfl⟩)
     go_round
     case rel => exact ⟨10, by omega, rfl, he⟩
     case measure => simp [intOf]
   ·have hx : ∀ W, (Instr.index 119 (.agg #[.string ⟨#[38, 38, 38]⟩, .string ⟨#[61, 61]⟩, .string ⟨#[33, 61]⟩, .string ⟨#[60, 61]⟩, .string ⟨#[62, 61]⟩, .string ⟨#[60, 60]⟩, .string ⟨#[62, 62]⟩, .string ⟨#[38, 38]⟩, .string ⟨#[124, 124]⟩, .string ⟨#[43, 43]⟩, .string ⟨#[45, 62]⟩]) (.int .i64 10)).run Tryz.prog W = .ok (.string ⟨#[45, 62]⟩) W := fun _ => by kernel_rfl
    have hm1 := hide (show (if Lib.hasPrefix s.data.toList [45, 62] then [45, 62] else markF (longMarks.drop 11) s.data.toList) = markL s.data.toList from hm.out)
    cases hb : Lib.hasPrefix s.data.toList [45, 62] with
    | true =>
     have hq := fun W => hP.out ⟨#[45, 62]⟩ W
     simp only [hb] at hq
     have he : markL s.data.toList = [45, 62] := by rw [← hm1.out, hb]; rfl
     replace he := hide he
     replace hb := hide hb
     go_wp2_with (go_at_call 68; refine (hq _).mono ?_; rintro e w' ⟨rfl, rfl⟩)
     go_ret
     exact ⟨rfl, .inr ⟨⟨#[45, 62]⟩, he.out.symm, by rw [he.out]; simp, rfl⟩⟩
    | false =>
     have hq := fun W => hP.out ⟨#[45, 62]⟩ W
     simp only [hb] at hq
     have he : markF (longMarks.drop 11) s.data.toList = markL s.data.toList := by rw [← hm1.out, hb]; rfl
     replace he := hide he
     replace hb := hide hb
     go_wp2_with (go_at_call 68; refine (hq _).mono ?_; rintro e w' ⟨rfl, rfl⟩)
     go_round
     case rel => exact ⟨11, by omega, rfl, he⟩
     case measure => simp [intOf]
  ·have hke : k = 11 := by omega
   subst hke
   have hm2 : (if 0 ≤ Lib.indexByte shortMarks s[0] then s.data.toList.take 1 else []) = markL s.data.toList := by rw [← hm.out, ← head_eq h0]; rfl
   have hne : s.data.toList.take 1 ≠ [] := by rw [← ext_take, ext_one h0]; simp
   have hC' : Hid (∀ W, Calls Tryz.prog 83 #[.string ⟨#[123, 125, 40, 41, 91, 93, 59, 58, 44, 61, 60, 62, 43, 45, 38, 124, 94, 126, 33, 46, 47]⟩, .string (s.extract 0 1)] W fun e w' => e = .returned (.bool (decide (0 ≤ Lib.indexByte shortMarks s[0]))) ∧ w' = W) := hC
   by_cases hin : 0 ≤ Lib.indexByte shortMarks s[0]
   ·rw [if_pos hin] at hm2
    rw [decide_eq_true hin] at hC'
    replace hin := hide hin
    replace hm2 := hide hm2
    go_wp2_with (go_at_call 83; refine (hC'.out _).mono ?_; rintro e w' ⟨rfl, rfl⟩)
    go_ret
    exact ⟨rfl, .inr ⟨s.extract 0 1, by rw [ext_take, hm2.out], by rw [← hm2.out]; exact hne, rfl⟩⟩
   ·rw [if_neg hin] at hm2
    rw [decide_eq_false hin] at hC'
    replace hin := hide hin
    replace hm2 := hide hm2
    go_wp2_with (go_at_call 83; refine (hC'.out _).mono ?_; rintro e w' ⟨rfl, rfl⟩)
    exact ⟨rfl, rfl, .inl ⟨hm2.out.symm, rfl⟩⟩
end Go.Proofs.YtbjokgnnklcbcaaGreatDoor

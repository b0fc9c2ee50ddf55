import Derived.Test.YtbjokgnnklcbcaaGreatDoorTpr31
set_option linter.all false
/-! Layer 3, the document's: one token. -/
namespace Go.Proofs.YtbjokgnnklcbcaaGreatDoor
open Go.RowKit
/-- A box of a token. -/
structure KBox (W : World) (g : Nat) (k : Int) (S : ByteArray) (wd nh nl a : Int) : Prop where
 lt : g < W.heap.size
 c0 : W.cell? ⟨g, 0, none⟩ = some (.int .u8 k)
 c1 : W.cell? ⟨g, 1, none⟩ = some (.string S)
 c2 : W.cell? ⟨g, 2, none⟩ = some (.int .i64 wd)
 c3 : W.cell? ⟨g, 3, none⟩ = some (.int .u64 nh)
 c4 : W.cell? ⟨g, 4, none⟩ = some (.int .u64 nl)
 c5 : W.cell? ⟨g, 5, none⟩ = some (.int .i64 a)
 f0 : W.frozen? ⟨g, 0, none⟩ = false
 f1 : W.frozen? ⟨g, 1, none⟩ = false
 f2 : W.frozen? ⟨g, 2, none⟩ = false
 f3 : W.frozen? ⟨g, 3, none⟩ = false
 f4 : W.frozen? ⟨g, 4, none⟩ = false
 f5 : W.frozen? ⟨g, 5, none⟩ = false
section
variable {W W' : World} {g B : Nat} {k : Int} {S : ByteArray} {wd nh nl a : Int}
theorem KBox.below (h : KBox W g k S wd nh nl a) (hb : Below B W W') (hg : g < B) : KBox W' g k S wd nh nl a := by
 have kk := bcell' hb
 exact ⟨Nat.lt_of_lt_of_le h.lt hb.size, (kk.1 g 0 hg).trans h.c0, (kk.1 g 1 hg).trans h.c1, (kk.1 g 2 hg).trans h.c2, (kk.1 g 3 hg).trans h.c3, (kk.1 g 4 hg).trans h.c4, (kk.1 g 5 hg).trans h.c5, (kk.2 g 0 hg).trans h.f0, (kk.2 g 1 hg).trans h.f1, (kk.2 g 2 hg).trans h.f2, (kk.2 g 3 hg).trans h.f3, (kk.2 g 4 hg).trans h.f4, (kk.2 g 5 hg).trans h.f5⟩
theorem KBox.new (W : World) (k : Int) (S : ByteArray) (wd nh nl a : Int) (t : TypeId) : KBox (W.alloc (.cells #[.int .u8 k, .string S, .int .i64 wd, .int .u64 nh, .int .u64 nl, .int .i64 a] t)) W.heap.size k S wd nh nl a := by
 obtain ⟨wa, hwa, hsa, hba, hca, hfa⟩ := box1 W #[.int .u8 k, .string S, .int .i64 wd, .int .u64 nh, .int .u64 nl, .int .i64 a] t
 rw [hwa]
 exact ⟨by omega, hca 0, hca 1, hca 2, hca 3, hca 4, hca 5, hfa 0, hfa 1, hfa 2, hfa 3, hfa 4, hfa 5⟩
theorem KBox.alloc (h : KBox W g k S wd nh nl a) (o : Obj) : KBox (W.alloc o) g k S wd nh nl a := h.below ((Below.refl _ _).alloc (Nat.le_refl _) o) h.lt
theorem KBox.far {q i : Nat} (h : KBox W g k S wd nh nl a) (v : Value) (hk : q ≠ g) : KBox (W.setCell ⟨q, i, none⟩ v) g k S wd nh nl a := by
 have hh : (W.setCell ⟨q, i, none⟩ v).heap[g]? = W.heap[g]? := Below.heap_setCell _ _ _ _ (fun e => hk e.symm)
 have hc : ∀ j, (W.setCell ⟨q, i, none⟩ v).cell? ⟨g, j, none⟩ = W.cell? ⟨g, j, none⟩ := fun j => by unfold World.cell?; rw [hh]
 have hf : ∀ j, (W.setCell ⟨q, i, none⟩ v).frozen? ⟨g, j, none⟩ = W.frozen? ⟨g, j, none⟩ := fun j => by unfold World.frozen?; rw [hh]
 exact ⟨by rw [setCell_size]; exact h.lt, (hc 0).trans h.c0, (hc 1).trans h.c1, (hc 2).trans h.c2, (hc 3).trans h.c3, (hc 4).trans h.c4, (hc 5).trans h.c5, (hf 0).trans h.f0, (hf 1).trans h.f1, (hf 2).trans h.f2, (hf 3).trans h.f3, (hf 4).trans h.f4, (hf 5).trans h.f5⟩
theorem KBox.set1 (h : KBox W g k S wd nh nl a) (S' : ByteArray) : KBox (W.setCell ⟨g, 1, none⟩ (.string S')) g k S' wd nh nl a := by
 obtain ⟨hl, c0, c1, c2, c3, c4, c5, f0, f1, f2, f3, f4, f5⟩ := h
 refine ⟨by rw [setCell_size]; exact hl, ?_, ?_, ?_, ?_, ?_, ?_, ?_, ?_, ?_, ?_, ?_, ?_⟩ <;> simp [go_sem, c0, c1, c2, c3, c4, c5, f0, f1, f2, f3, f4, f5]
end
/-- What the call of one hands back. -/
def One3 (a : Nat) (r : Except Int (Nat × List UInt8 × Nat × Nat)) (e : Ending) : Prop :=
 match r with
 | .error n => ∃ (k : Int) (S : ByteArray) (wd nh nl b : Int), e = .returned (.tuple #[.agg #[.int .u8 k, .string S, .int .i64 wd, .int .u64 nh, .int .u64 nl, .int .i64 b], .int .i64 n])
 | .ok x => e = .returned (.tuple #[.agg (tkC x.1 ⟨x.2.1.toArray⟩ x.2.2.1 x.2.2.2 a).toArray, .int .i64 0])
theorem markL_prefix (l : List UInt8) : markL l = l.take (markL l).length := by
 have : ∀ ms : List (List UInt8), markF ms l = l.take (markF ms l).length := by
  intro ms
  induction ms with
  | nil =>
   unfold markF
   split
   ·rw [List.length_take]
    by_cases h : 1 ≤ l.length
    ·rw [Nat.min_eq_left h]
    ·have h0 : l = [] := List.eq_nil_of_length_eq_zero (by omega)
     subst h0; rfl
   ·rfl
  | cons m r ih =>
   unfold markF
   split
   ·rename_i hp
    exact (List.prefix_iff_eq_take.1 (List.isPrefixOf_iff_prefix.1 hp))
   ·exact ih
 exact this longMarks
theorem two_toks (w : World) (a : Int) (t t' : TypeId) : KBox ((w.alloc (.cells #[.int .u8 0, .string ⟨#[]⟩, .int .i64 0, .int .u64 0, .int .u64 0, .int .i64 0] t)).alloc (.cells #[.int .u8 0, .string ⟨#[]⟩, .int .i64 0, .int .u64 0, .int .u64 0, .int .i64 a] t')) w.heap.size 0 ⟨#[]⟩ 0 0 0 0 ∧ KBox ((w.alloc (.cells #[.int .u8 0, .string ⟨#[]⟩, .int .i64 0, .int .u64 0, .int .u64 0, .int .i64 0] t)).alloc (.cells #[.int .u8 0, .string ⟨#[]⟩, .int .i64 0, .int .u64 0, .int .u64 0, .int .i64 a] t')) (w.heap.size + 1) 0 ⟨#[]⟩ 0 0 0 a ∧ Below w.heap.size w ((w.alloc (.cells #[.int .u8 0, .string ⟨#[]⟩, .int .i64 0, .int .u64 0, .int .u64 0, .int .i64 0] t)).alloc (.cells #[.int .u8 0, .string ⟨#[]⟩, .int .i64 0, .int .u64 0, .int .u64 0, .int .i64 a] t')) := by
 refine ⟨(KBox.new w 0 ⟨#[]⟩ 0 0 0 0 t).alloc _, ?_, ((Below.refl _ _).alloc (Nat.le_refl _) _).alloc (by simp) _⟩
 have := KBox.new (w.alloc (.cells #[.int .u8 0, .string ⟨#[]⟩, .int .i64 0, .int .u64 0, .int .u64 0, .int .i64 0] t)) 0 ⟨#[]⟩ 0 0 0 a t'
 rw [show (w.alloc (.cells #[.int .u8 0, .string ⟨#[]⟩, .int .i64 0, .int .u64 0, .int .u64 0, .int .i64 0] t)).heap.size = w.heap.size + 1 from by simp] at this
 exact this
set_option maxRecDepth 100000 in
set_option maxHeartbeats 8000000 in
theorem one03_any (s : ByteArray) (k0 : Nat) (w : World) (hk0 : k0 < s.size) (hs : s.size ≤ 2000000) :
  Calls Tryz.prog 54 #[.string s, .int .i64 (k0 : Int)] w fun e w' => One3 k0 (oneR (s.data.toList.drop k0)) e ∧ Below w.heap.size w w' := by
 have hl : s.size ≤ 9223372036854775807 := by omega
 obtain ⟨hb4, hb6, hbw⟩ := two_toks w (k0 : Int) 64 64
 obtain ⟨RES, hRES⟩ : ∃ RES, RES = oneR (s.data.toList.drop k0) := ⟨_, rfl⟩
 rw [← hRES]
 unfold oneR at hRES
 simp only at hRES
 have hdc := drop_cons s hk0
 obtain ⟨c, hc⟩ : ∃ c : Int, c = ((s[k0].toNat : Nat) : Int) := ⟨_, rfl⟩
 have hix : ∀ W, (Instr.index 9 (.string s) (.int .i64 (k0 : Int))).run Tryz.prog W = .ok (.int .u8 c) W := fun W => by rw [hc]; exact index_str s k0 hk0 hl W
 have hL := hide (fun W => letter03_any c W)
 have hD := hide (fun W => digit03_any c W)
 have hwb : wordB c = (digitB c || letterB c) := rfl
 have hk1 : (0 : Int) ≤ (k0 : Int) := by omega
 have hkz : (k0 : Int) < (s.size : Int) := by omega
 replace hb4 := hide hb4
 replace hb6 := hide hb6
 replace hbw := hide hbw
 by_cases hw : wordB c = true
 ·have hor : digitB c = true ∨ letterB c = true := by rw [hwb] at hw; simpa using hw
  have hwpos : 1 ≤ wlenL (s.data.toList.drop k0) := by
   rw [hdc]
   unfold wlenL
   rw [List.takeWhile_cons_of_pos (by rw [← hc]; exact hw)]
   simp
  have hdlen : (s.data.toList.drop k0).length = s.size - k0 := by rw [List.length_drop, ← Lib.size_eq]
  replace hRES := hide hRES
  replace hdc := hide hdc
  replace hc := hide hc
  replace hdlen := hide hdlen
  clear hwb
  go_enter Tryz.func54, Tryz.ntmps54
  go_upto_region 2 with (fail)
  generalize (w.alloc (.cells #[.int .u8 0, .string ⟨#[]⟩, .int .i64 0, .int .u64 0, .int .u64 0, .int .i64 0] 64)).alloc (.cells #[.int .u8 0, .string ⟨#[]⟩, .int .i64 0, .int .u64 0, .int .u64 0, .int .i64 (k0 : Int)] 64) = w1 at hb4 hb6 hbw ⊢
  go_cut [25] (fun b wx => b = .bool false ∧ wx = w1)
  case first =>
   cases hlb : letterB c with
   | true =>
    rw [hlb] at hL
    go_wp2_with (go_at_call 76; refine (hL.out _).mono ?_; rintro e w' ⟨rfl, rfl⟩)
    go_meet
    exact ⟨rfl, rfl⟩
   | false =>
    have hdb : digitB c = true := hor.resolve_right (by rw [hlb]; simp)
    rw [hlb] at hL
    rw [hdb] at hD
    go_wp2_with (first | (go_at_call 76; refine (hL.out _).mono ?_; rintro e w' ⟨rfl, rfl⟩) | (go_at_call 77; refine (hD.out _).mono ?_; rintro e w' ⟨rfl, rfl⟩))
    go_meet
    exact ⟨rfl, rfl⟩
  case rest =>
  obtain ⟨rfl, hcx⟩ := hcut
  replace hcx := hcx.symm
  subst hcx
  clear hL hor
  go_wp2
  go_loop [8] (fun i => ∃ k : Nat, k0 ≤ k ∧ k ≤ s.size ∧ i = .int .i64 k ∧ k - k0 ≤ wlenL (s.data.toList.drop k0)) (fun i => s.size - (intOf i).toNat)
  case atStart => exact ⟨k0, Nat.le_refl _, Nat.le_of_lt hk0, rfl, by omega⟩
  case round =>
   obtain ⟨k, hkk, hk, rfl, hwl⟩ := hrel
   by_cases hgo : ∃ h : k < s.size, wordB ((s[k].toNat : Nat) : Int) = true
   ·obtain ⟨hlt, hwk⟩ := hgo
    have hlz : (k : Int) < (s.size : Int) := by omega
    have hgk : (s.data.toList.drop k0)[k - k0]'(by rw [hdlen.out]; omega) = s[k] := by
     rw [List.getElem_drop]
     have : k0 + (k - k0) = k := by omega
     simp only [this]
     rfl
    have hnext := hide (wlenL_succ (s.data.toList.drop k0) (k - k0) (by rw [hdlen.out]; omega) hwl (by rw [hgk]; exact hwk))
    obtain ⟨d, hd⟩ : ∃ d : Int, d = ((s[k].toNat : Nat) : Int) := ⟨_, rfl⟩
    have hix2 : ∀ W, (Instr.index 9 (.string s) (.int .i64 (k : Int))).run Tryz.prog W = .ok (.int .u8 d) W := fun W => by rw [hd]; exact index_str s k hlt hl W
    rw [← hd] at hwk
    have hL2 := hide (fun W => letter03_any d W)
    have hD2 := hide (fun W => digit03_any d W)
    have hor : digitB d = true ∨ letterB d = true := by unfold wordB at hwk; simpa using hwk
    clear hgk hwk
    replace hd := hide hd
    cases hlb : letterB d with
    | true =>
     rw [hlb] at hL2
     clear hor
     go_wp2_with (go_at_call 76; refine (hL2.out _).mono ?_; rintro e w' ⟨rfl, rfl⟩)
     go_round
     case rel => exact ⟨k + 1, by omega, by omega, by go_num, by have := hnext.out; omega⟩
     case measure => simp [intOf]; omega
    | false =>
     have hdb : digitB d = true := hor.resolve_right (by rw [hlb]; simp)
     rw [hlb] at hL2
     rw [hdb] at hD2
     clear hor
     go_wp2_with (first | (go_at_call 76; refine (hL2.out _).mono ?_; rintro e w' ⟨rfl, rfl⟩) | (go_at_call 77; refine (hD2.out _).mono ?_; rintro e w' ⟨rfl, rfl⟩))
     go_round
     case rel => exact ⟨k + 1, by omega, by omega, by go_num, by have := hnext.out; omega⟩
     case measure => simp [intOf]; omega
   ·have hwe : wlenL (s.data.toList.drop k0) = k - k0 := by
     by_cases hlt : k < s.size
     ·have hgk : (s.data.toList.drop k0)[k - k0]'(by rw [hdlen.out]; omega) = s[k] := by
       rw [List.getElem_drop]
       have : k0 + (k - k0) = k := by omega
       simp only [this]
       rfl
      refine wlenL_stop _ _ (by rw [hdlen.out]; omega) hwl ?_
      rw [hgk]
      cases h : wordB ((s[k].toNat : Nat) : Int) with
      | false => rfl
      | true => exact absurd ⟨hlt, h⟩ hgo
     ·have := wlenL_le (s.data.toList.drop k0)
      have := hdlen.out
      omega
    replace hwe := hide hwe
    clear hwl
    go_upto_region 10 with (fail)
    go_cut [57] (fun b wx => b = .bool false ∧ wx = w1)
    case first =>
     by_cases hlt : k < s.size
     ·have hlz : (k : Int) < (s.size : Int) := by omega
      obtain ⟨d, hd⟩ : ∃ d : Int, d = ((s[k].toNat : Nat) : Int) := ⟨_, rfl⟩
      have hix2 : ∀ W, (Instr.index 9 (.string s) (.int .i64 (k : Int))).run Tryz.prog W = .ok (.int .u8 d) W := fun W => by rw [hd]; exact index_str s k hlt hl W
      have hno : wordB d = false := by
       rw [hd]
       cases h : wordB ((s[k].toNat : Nat) : Int) with
       | false => rfl
       | true => exact absurd ⟨hlt, h⟩ hgo
      have hL2 := hide (fun W => letter03_any d W)
      have hD2 := hide (fun W => digit03_any d W)
      have hlb : letterB d = false := by cases h : letterB d with | false => rfl | true => unfold wordB at hno; rw [h] at hno; simp at hno
      have hdb : digitB d = false := by cases h : digitB d with | false => rfl | true => unfold wordB at hno; rw [h] at hno; simp at hno
      rw [hlb] at hL2
      rw [hdb] at hD2
      clear hno hgo
      replace hd := hide hd
      go_wp2_with (first | (go_at_call 76; refine (hL2.out _).mono ?_; rintro e w' ⟨rfl, rfl⟩) | (go_at_call 77; refine (hD2.out _).mono ?_; rintro e w' ⟨rfl, rfl⟩))
      go_meet
      exact ⟨rfl, rfl⟩
     ·have hlz : ¬ (k : Int) < (s.size : Int) := by omega
      clear hgo
      go_wp2
      go_meet
      exact ⟨rfl, rfl⟩
    case rest =>
    obtain ⟨rfl, hcx⟩ := hcut
    replace hcx := hcx.symm
    subst hcx
    obtain ⟨S, hS⟩ : ∃ S, S = s.extract k0 k := ⟨_, rfl⟩
    have hSl : S.data.toList = (s.data.toList.drop k0).take (wlenL (s.data.toList.drop k0)) := by rw [hS, ext_toList, List.drop_take, hwe.out]
    have hne : (s.data.toList.drop k0).take (wlenL (s.data.toList.drop k0)) ≠ [] := by
     intro h
     have := congrArg List.length h
     rw [List.length_take, hdlen.out] at this
     simp at this; omega
    have hSz : S.size = k - k0 := by
     rw [Lib.size_eq, hSl, List.length_take, hdlen.out, hwe.out]; omega
    have hhd : digB (((s.data.toList.drop k0).take (wlenL (s.data.toList.drop k0))).headD 0) = digitB c := by
     obtain ⟨q, hq⟩ : ∃ q, wlenL (s.data.toList.drop k0) = q + 1 := ⟨wlenL (s.data.toList.drop k0) - 1, by omega⟩
     rw [hq, hdc.out, hc.out]
     rfl
    have hRES2 := hRES.out
    rw [if_neg hne, hhd] at hRES2
    have hmk : (⟨((s.data.toList.drop k0).take (wlenL (s.data.toList.drop k0))).toArray⟩ : ByteArray) = S := by rw [← hSl]
    have hz1 : (k0 : Int) ≤ (k : Int) := by omega
    have hz2 : (k : Int) ≤ (s.size : Int) := by omega
    obtain ⟨-, x0, x1, x2, x3, x4, x5, g0, g1, g2, g3, g4, g5⟩ := hb6.out
    replace hS := hS.symm
    have h6a := hide (show KBox (w1.setCell ⟨w.heap.size + 1, 1, none⟩ (.string S)) (w.heap.size + 1) 0 S 0 0 0 (k0 : Int) from hb6.out.set1 S)
    have h4a := hide (show KBox (w1.setCell ⟨w.heap.size + 1, 1, none⟩ (.string S)) w.heap.size 0 ⟨#[]⟩ 0 0 0 0 from hb4.out.far _ (by omega))
    have hba := hide (show Below w.heap.size w (w1.setCell ⟨w.heap.size + 1, 1, none⟩ (.string S)) from hbw.out.setCell (p := ⟨w.heap.size + 1, 1, none⟩) (by show w.heap.size ≤ w.heap.size + 1; omega) _)
    go_upto_region 13 with (fail)
    generalize w1.setCell ⟨w.heap.size + 1, 1, none⟩ (.string S) = wa at h6a h4a hba ⊢
    clear x0 x1 x2 x3 x4 x5 g0 g1 g2 g3 g4 g5 hb6 hb4 hbw
    replace hS := hide hS
    cases hdg : digitB c with
    | true =>
     rw [hdg] at hD hRES2 hhd
     rw [if_pos rfl] at hRES2
     have hN := fun W => number03_any S W (by omega) (by rw [hSl, hhd])
     rw [← hSl] at hRES2
     have hone : ∃ (wz nh nl ez : Int), numV3 (numR S.data.toList) = .tuple #[.int .i64 wz, .agg #[.int .u64 nh, .int .u64 nl], .int .i64 ez] ∧ One3 k0 RES (.returned (.tuple #[.agg #[.int .u8 2, .string S, .int .i64 wz, .int .u64 nh, .int .u64 nl, .int .i64 (k0 : Int)], .int .i64 ez])) := by
      cases hn : numR S.data.toList with
      | error n =>
       rw [hn] at hRES2
       exact ⟨0, 0, 0, n, rfl, by rw [hRES2]; exact ⟨_, _, _, _, _, _, rfl⟩⟩
      | ok x =>
       rw [hn] at hRES2
       exact ⟨_, _, _, _, rfl, by rw [hRES2]; rfl⟩
     obtain ⟨wz, nh, nl, ez, hnv, hv⟩ := hone
     rw [hnv] at hN
     replace hN := hide hN
     replace hv := hide hv
     clear hnv hRES2 hRES hhd hSl hne hmk hwe hdc hc hdlen hwpos hw hgo hdg
     obtain ⟨-, x0, x1, x2, x3, x4, x5, g0, g1, g2, g3, g4, g5⟩ := h6a.out
     go_upto_region 15 with (first | (go_at_call 77; refine (hD.out _).mono ?_; rintro e w' ⟨rfl, rfl⟩) | (go_at_call 79; refine (hN.out _).mono ?_; rintro e w2 ⟨rfl, hb2⟩; obtain ⟨w3, hw3, hs3, hb3, hc3, hf3⟩ := box1 w2 #[.int .u64 nh, .int .u64 nl] 62; replace hs3 := hide hs3))
     clear x0 x1 x2 x3 x4 x5 g0 g1 g2 g3 g4 g5
     have hs3' := hs3.out
     have hl3 : w2.heap.size < w3.heap.size := by omega
     have hb23 := hb2.trans (hb3.mono hb2.size)
     have y0 := hc3 0
     have y1 := hc3 1
     simp at y0 y1
     have hne1 : w.heap.size + 1 < w2.heap.size := Nat.lt_of_lt_of_le h6a.out.lt hb2.size
     obtain ⟨kl, k0', k1, k2, k3, k4, k5, f0, f1, f2, f3, f4, f5⟩ := h4a.out.below hb23 h4a.out.lt
     obtain ⟨xl, x0, x1, x2, x3, x4, x5, g0, g1, g2, g3, g4, g5⟩ := h6a.out.below hb23 h6a.out.lt
     have hfx := hide (hba.out.trans (hb23.mono hba.out.size))
     clear hs3' hb2 hb3 hb23 hc3 hf3
     go_wp2
     exact bodyPost_ret (v := .tuple #[.agg #[.int .u8 2, .string S, .int .i64 wz, .int .u64 nh, .int .u64 nl, .int .i64 (k0 : Int)], .int .i64 ez]) (by simp [results, Tryz.results54, go_sem, k0', k1, k2, k3, k4, k5, kl]) rfl ⟨hv.out, below_set6 ((((hfx.out.setCell (p := ⟨w.heap.size + 1, 0, none⟩) (by show w.heap.size ≤ w.heap.size + 1; omega) _).setCell (p := ⟨w.heap.size + 1, 2, none⟩) (by show w.heap.size ≤ w.heap.size + 1; omega) _).setCell (p := ⟨w.heap.size + 1, 3, none⟩) (by show w.heap.size ≤ w.heap.size + 1; omega) _).setCell (p := ⟨w.heap.size + 1, 4, none⟩) (by show w.heap.size ≤ w.heap.size + 1; omega) _) (Nat.le_refl _) _ _ _ _ _ _⟩
    | false =>
     rw [hdg] at hD hRES2
     rw [if_neg (by simp), ← hSl, ← Lib.size_eq, hSz] at hRES2
     have hmk2 : (⟨S.data.toList.toArray⟩ : ByteArray) = S := rfl
     obtain ⟨-, x0, x1, x2, x3, x4, x5, g0, g1, g2, g3, g4, g5⟩ := h6a.out
     obtain ⟨kl, k0', k1, k2, k3, k4, k5, f0, f1, f2, f3, f4, f5⟩ := h4a.out
     have hfx := hba
     by_cases h16 : 16 < k - k0
     ·rw [if_pos h16] at hRES2
      have hv := hide (show ∀ e, (∃ (k : Int) (S : ByteArray) (wd nh nl b : Int), e = Ending.returned (.tuple #[.agg #[.int .u8 k, .string S, .int .i64 wd, .int .u64 nh, .int .u64 nl, .int .i64 b], .int .i64 3])) → One3 k0 RES e from fun e he => by rw [hRES2]; exact he)
      have h16z : (16 : Int) < (k : Int) - (k0 : Int) := by omega
      clear hRES2 hRES hhd hSl hne hmk hwe hdc hc hdlen hwpos hw hgo hdg hmk2 hSz
      replace h16 := hide h16
      go_wp2_with (go_at_call 77; refine (hD.out _).mono ?_; rintro e w' ⟨rfl, rfl⟩)
      exact bodyPost_ret (v := .tuple #[.agg #[.int .u8 1, .string S, .int .i64 0, .int .u64 0, .int .u64 0, .int .i64 (k0 : Int)], .int .i64 3]) (by simp [results, Tryz.results54, go_sem, k0', k1, k2, k3, k4, k5, kl]) rfl ⟨hv.out _ ⟨_, _, _, _, _, _, rfl⟩, below_set6 (hfx.out.setCell (p := ⟨w.heap.size + 1, 0, none⟩) (by show w.heap.size ≤ w.heap.size + 1; omega) _) (Nat.le_refl _) _ _ _ _ _ _⟩
     ·rw [if_neg h16] at hRES2
      have hv := hide (show ∀ e, e = Ending.returned (.tuple #[.agg #[.int .u8 1, .string S, .int .i64 0, .int .u64 0, .int .u64 0, .int .i64 (k0 : Int)], .int .i64 0]) → One3 k0 RES e from fun e he => by
       rw [hRES2, he]
       show _ = _
       simp [tkC])
      have h16z : ¬ (16 : Int) < (k : Int) - (k0 : Int) := by omega
      clear hRES2 hRES hhd hSl hne hmk hwe hdc hc hdlen hwpos hw hgo hdg hmk2 hSz
      replace h16 := hide h16
      go_wp2_with (go_at_call 77; refine (hD.out _).mono ?_; rintro e w' ⟨rfl, rfl⟩)
      exact bodyPost_ret (v := .tuple #[.agg #[.int .u8 1, .string S, .int .i64 0, .int .u64 0, .int .u64 0, .int .i64 (k0 : Int)], .int .i64 0]) (by simp [results, Tryz.results54, go_sem, k0', k1, k2, k3, k4, k5, kl]) rfl ⟨hv.out _ rfl, below_set6 (hfx.out.setCell (p := ⟨w.heap.size + 1, 0, none⟩) (by show w.heap.size ≤ w.heap.size + 1; omega) _) (Nat.le_refl _) _ _ _ _ _ _⟩
 ·have hw0 : wlenL (s.data.toList.drop k0) = 0 := by
   rw [hdc]
   unfold wlenL
   rw [List.takeWhile_cons_of_neg (by rw [← hc]; exact hw)]
   rfl
  rw [hw0, List.take_zero, if_pos rfl] at hRES
  have hdg : digitB c = false := by cases h : digitB c with | false => rfl | true => rw [hwb, h] at hw; simp at hw
  have hlt : letterB c = false := by cases h : letterB c with | false => rfl | true => rw [hwb, h, Bool.or_true] at hw; simp at hw
  rw [hdg] at hD
  rw [hlt] at hL
  have hM := hide (fun W => mark03_any s k0 W hk0 (by omega))
  obtain ⟨m, hm⟩ : ∃ m, m = (markL (s.data.toList.drop k0)).length := ⟨_, rfl⟩
  rw [← hm] at hM
  have hml := markL_prefix (s.data.toList.drop k0)
  rw [← hm] at hml
  have hmle : m ≤ s.size - k0 := by
   rw [hm, hml, List.length_take, List.length_drop, ← Lib.size_eq]; omega
  clear hdc hwb hw hw0 hdg hlt
  replace hc := hide hc
  by_cases h0 : markL (s.data.toList.drop k0) = []
  ·rw [if_pos h0] at hRES
   have hm0 : m = 0 := by rw [hm, h0]; rfl
   subst hRES
   subst hm0
   clear hml hm h0 hmle
   go_enter Tryz.func54, Tryz.ntmps54
   go_upto_region 2 with (fail)
   generalize (w.alloc (.cells #[.int .u8 0, .string ⟨#[]⟩, .int .i64 0, .int .u64 0, .int .u64 0, .int .i64 0] 64)).alloc (.cells #[.int .u8 0, .string ⟨#[]⟩, .int .i64 0, .int .u64 0, .int .u64 0, .int .i64 (k0 : Int)] 64) = w1 at hb4 hb6 hbw ⊢
   go_upto_region 4 with (first | (go_at_call 76; refine (hL.out _).mono ?_; rintro e w' ⟨rfl, rfl⟩) | (go_at_call 77; refine (hD.out _).mono ?_; rintro e w' ⟨rfl, rfl⟩) | (go_at_call 78; refine (hM.out _).mono ?_; rintro e w2 ⟨rfl, hb2⟩))
   obtain ⟨kl, k0', k1, k2, k3, k4, k5, f0, f1, f2, f3, f4, f5⟩ := hb4.out.below hb2 hb4.out.lt
   obtain ⟨-, x0, x1, x2, x3, x4, x5, -, -, -, -, -, -⟩ := hb6.out.below hb2 hb6.out.lt
   have hfx := hide (hbw.out.trans (hb2.mono hbw.out.size))
   clear hb2
   go_wp2
   exact bodyPost_ret (v := .tuple #[.agg #[.int .u8 0, .string ⟨#[]⟩, .int .i64 0, .int .u64 0, .int .u64 0, .int .i64 (k0 : Int)], .int .i64 4]) (by simp [results, Tryz.results54, go_sem, k0', k1, k2, k3, k4, k5, kl]) rfl ⟨⟨_, _, _, _, _, _, rfl⟩, below_set6 hfx.out (Nat.le_refl _) _ _ _ _ _ _⟩
  ·rw [if_neg h0] at hRES
   have hm0 : 0 < m := by rw [hm]; exact List.length_pos_iff.2 h0
   obtain ⟨S, hS⟩ : ∃ S, S = s.extract k0 (k0 + m) := ⟨_, rfl⟩
   have hSl : S.data.toList = markL (s.data.toList.drop k0) := by
    rw [hS, ext_toList, List.drop_take, hml]
    congr 1; omega
   have hmk : (⟨(markL (s.data.toList.drop k0)).toArray⟩ : ByteArray) = S := by rw [← hSl]
   have hv := hide (show ∀ e, e = .returned (.tuple #[.agg #[.int .u8 3, .string S, .int .i64 0, .int .u64 0, .int .u64 0, .int .i64 (k0 : Int)], .int .i64 0]) → One3 k0 RES e from fun e he => by
    rw [hRES, he]
    show _ = _
    rw [hmk]
    simp [tkC])
   have hm1 : ¬ (m : Int) = 0 := by omega
   have hm1b : ((m : Int) == 0) = false := beq_eq_false_iff_ne.2 hm1
   have hm2 : (k0 : Int) ≤ (k0 : Int) + (m : Int) := by omega
   have hm3 : (k0 : Int) + (m : Int) ≤ (s.size : Int) := by omega
   have hm4 : ((k0 : Int) + (m : Int)).toNat = k0 + m := by omega
   clear hml hm h0 hSl hmk hRES
   replace hS := hide hS.symm
   go_enter Tryz.func54, Tryz.ntmps54
   go_upto_region 2 with (fail)
   generalize (w.alloc (.cells #[.int .u8 0, .string ⟨#[]⟩, .int .i64 0, .int .u64 0, .int .u64 0, .int .i64 0] 64)).alloc (.cells #[.int .u8 0, .string ⟨#[]⟩, .int .i64 0, .int .u64 0, .int .u64 0, .int .i64 (k0 : Int)] 64) = w1 at hb4 hb6 hbw ⊢
   go_upto_region 4 with (first | (go_at_call 76; refine (hL.out _).mono ?_; rintro e w' ⟨rfl, rfl⟩) | (go_at_call 77; refine (hD.out _).mono ?_; rintro e w' ⟨rfl, rfl⟩) | (go_at_call 78; refine (hM.out _).mono ?_; rintro e w2 ⟨rfl, hb2⟩))
   obtain ⟨kl, k0', k1, k2, k3, k4, k5, f0, f1, f2, f3, f4, f5⟩ := hb4.out.below hb2 hb4.out.lt
   obtain ⟨xl, x0, x1, x2, x3, x4, x5, g0, g1, g2, g3, g4, g5⟩ := hb6.out.below hb2 hb6.out.lt
   have hfx := hide (hbw.out.trans (hb2.mono hbw.out.size))
   clear hb2
   replace hS := hS.out
   go_wp2
   exact bodyPost_ret (v := .tuple #[.agg #[.int .u8 3, .string S, .int .i64 0, .int .u64 0, .int .u64 0, .int .i64 (k0 : Int)], .int .i64 0]) (by simp [results, Tryz.results54, go_sem, k0', k1, k2, k3, k4, k5, kl]) rfl ⟨hv.out _ rfl, below_set6 ((hfx.out.setCell (p := ⟨w.heap.size + 1, 0, none⟩) (by show w.heap.size ≤ w.heap.size + 1; omega) _).setCell (p := ⟨w.heap.size + 1, 1, none⟩) (by show w.heap.size ≤ w.heap.size + 1; omega) _) (Nat.le_refl _) _ _ _ _ _ _⟩
end Go.Proofs.YtbjokgnnklcbcaaGreatDoor

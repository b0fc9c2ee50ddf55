import Derived.Test.YtbjokgnnklcbcaaGreatDoorTpr32
set_option linter.all false
/-! Layer 3, the document's: Lex. -/
namespace Go.Proofs.YtbjokgnnklcbcaaGreatDoor
open Go.RowKit
attribute [local go_sem ↓] app_eq
/-- A box of a fault, as it was made. -/
structure FBox (W : World) (g : Nat) : Prop where
 lt : g < W.heap.size
 c0 : W.cell? ⟨g, 0, none⟩ = some (.int .i64 0)
 c1 : W.cell? ⟨g, 1, none⟩ = some (.int .i64 0)
 c2 : W.cell? ⟨g, 2, none⟩ = some (.int .i64 0)
 f0 : W.frozen? ⟨g, 0, none⟩ = false
 f1 : W.frozen? ⟨g, 1, none⟩ = false
 f2 : W.frozen? ⟨g, 2, none⟩ = false
theorem FBox.below {W W' : World} {g B : Nat} (h : FBox W g) (hb : Below B W W') (hg : g < B) : FBox W' g := by
 have kk := bcell' hb
 exact ⟨Nat.lt_of_lt_of_le h.lt hb.size, (kk.1 g 0 hg).trans h.c0, (kk.1 g 1 hg).trans h.c1, (kk.1 g 2 hg).trans h.c2, (kk.2 g 0 hg).trans h.f0, (kk.2 g 1 hg).trans h.f1, (kk.2 g 2 hg).trans h.f2⟩
theorem gapAt_le (s : ByteArray) (k : Nat) (h : k ≤ s.size) : k ≤ gapAt s k ∧ gapAt s k ≤ s.size := by
 have := gap_le false (s.data.toList.drop k)
 rw [List.length_drop, ← Lib.size_eq] at this
 unfold gapAt
 omega
set_option maxRecDepth 100000 in
set_option maxHeartbeats 8000000 in
theorem lex03_any (s : ByteArray) (w : World) (hs : s.size < 4611686018427387904) :
  Calls Tryz.prog 18 #[.string s] w fun e w' => LexE s.data.toList e w' ∧ Below w.heap.size w w' := by
 have hsl : s.size ≤ 9223372036854775807 := by omega
 obtain ⟨wa, hwa, hsa, hba, hca, hfa⟩ := box1 w #[.int .i64 0, .int .i64 0, .int .i64 0] 32
 have hF := hide (show FBox wa w.heap.size from ⟨by omega, hca 0, hca 1, hca 2, hfa 0, hfa 1, hfa 2⟩)
 have hla : w.heap.size < wa.heap.size := by omega
 have hsz1 : wa.heap.size = w.heap.size + 1 := hsa
 replace hsa := hide hsa
 clear hca hfa
 have hbw := hide hba
 clear hba
 by_cases hbig : 65536 < s.size
 ·have hbz : (65536 : Int) < (s.size : Int) := by omega
  have hR : lexR s.data.toList = .error (3, 0) := by unfold lexR; rw [if_pos (by rw [← Lib.size_eq]; exact hbig)]
  have hFt := hide (fault02_any s 0 3 wa (Nat.zero_le _) hs (by decide))
  replace hFt := hide (show Calls Tryz.prog _ #[.string s, .int .i64 0, .int .i64 3] wa _ from hFt.out)
  unfold faultV at hFt
  have hv := hide (show ∀ W, LexE s.data.toList (.returned (.tuple #[.slice none 0 0, .agg #[.int .i64 3, .int .i64 (((placeR (s.data.toList.take 0)).1 : Nat) : Int), .int .i64 (((placeR (s.data.toList.take 0)).2 : Nat) : Int)]])) W from fun W => by unfold LexE; rw [hR]; rfl)
  generalize (((placeR (s.data.toList.take 0)).1 : Nat) : Int) = pl at hFt hv
  generalize (((placeR (s.data.toList.take 0)).2 : Nat) : Int) = pc at hFt hv
  replace hbig := hide hbig
  replace hsz1 := hide hsz1
  clear hR
  go_enter Tryz.func18, Tryz.ntmps18
  go_wp2_with (go_at_call 28; refine hFt.out.mono ?_; rintro e w3 ⟨rfl, hb3⟩; obtain ⟨q, c0, c1, c2, f0, f1, f2⟩ := hF.out.below hb3 hF.out.lt)
  exact bodyPost_ret (v := .tuple #[.slice none 0 0, .agg #[.int .i64 3, .int .i64 pl, .int .i64 pc]]) (by simp [results, Tryz.results18, go_sem, c0, c1, c2, q]) rfl ⟨hv.out _, pl_below3 (hbw.out.trans (hb3.mono hbw.out.size)) (Nat.le_refl _) _ _ _⟩
 ·have hbz : ¬ (65536 : Int) < (s.size : Int) := by omega
  have hR0 : lexR s.data.toList = preT [] (lexL (s.size + 1) 0 (s.data.toList.drop 0)) := by
   unfold lexR
   rw [if_neg (by rw [← Lib.size_eq]; exact hbig), preT_nil, ← Lib.size_eq, List.drop_zero]
  have hs6 : s.size ≤ 65536 := by omega
  have hSk := hide (fun (k : Nat) (hk : k ≤ s.size) W => skip_any s k W hk (by omega))
  have hS0 := hide (fun W => show Calls Tryz.prog 53 #[.string s, .int .i64 0] W _ from hSk.out 0 (Nat.zero_le _) W)
  have hg0 := gapAt_le s 0 (Nat.zero_le _)
  replace hR0 := hide hR0
  clear hbig
  replace hsz1 := hide hsz1
  go_enter Tryz.func18, Tryz.ntmps18
  go_wp2_with (go_at_call 53; refine (hS0.out _).mono ?_; rintro e w' ⟨rfl, rfl⟩)
  go_loopw [4, 5] (fun v i wr => ∃ (k K : Nat) (acc : List Tk) (fuel : Nat), K = gapAt s k ∧ k ≤ s.size ∧ i = .int .i64 (K : Int) ∧ Hid (FBox wr w.heap.size) ∧ Hid (TkS wr (w.heap.size + 1) v acc) ∧ acc.length ≤ k ∧ s.size < fuel + k ∧ Hid (lexR s.data.toList = preT acc (lexL fuel k (s.data.toList.drop k))) ∧ Hid (Below w.heap.size w wr)) (fun _ i _ => s.size - (intOf i).toNat)
  case atStart => exact ⟨0, gapAt s 0, [], s.size + 1, rfl, Nat.zero_le _, rfl, hF, hide (TkS.nil_ _ _), Nat.zero_le _, by omega, hR0, hbw⟩
  case round =>
   clear hF hbw hR0 hS0 hg0
   obtain ⟨k, K, acc, fuel, hK, hk, rfl, hF, hT, hak, hfu, hR, hB⟩ := hrel
   obtain ⟨fu, rfl⟩ : ∃ fu, fuel = fu + 1 := ⟨fuel - 1, by omega⟩
   have hgl := gapAt_le s k hk
   rw [← hK] at hgl
   obtain ⟨hkK, hKs⟩ := hgl
   obtain ⟨A, cap, rfl⟩ := hT.out.form
   have hdk : (s.data.toList.drop k).drop (gap false (s.data.toList.drop k)) = s.data.toList.drop K := by rw [List.drop_drop, hK]; rfl
   have hKg : k + gap false (s.data.toList.drop k) = K := hK.symm
   obtain ⟨lt, c0, c1, c2, f0, f1, f2⟩ := hF.out
   replace hK := hide hK
   replace hKg := hide hKg
   by_cases hKe : K < s.size
   ·have hKz : (K : Int) < (s.size : Int) := by omega
    have hne : (s.data.toList.drop k).drop (gap false (s.data.toList.drop k)) ≠ [] := by
     rw [hdk]
     intro h
     have := congrArg List.length h
     rw [List.length_drop, ← Lib.size_eq] at this
     simp at this; omega
    have hO := one03_any s K wr hKe (by omega)
    obtain ⟨R, hRe⟩ : ∃ R, R = oneR (s.data.toList.drop K) := ⟨_, rfl⟩
    rw [← hRe] at hO
    rw [← hdk] at hRe
    cases R with
    | error n =>
     have hn0 : n ≠ 0 := oneR_err hRe.symm
     have hR' : lexR s.data.toList = .error (n, K) := by rw [hR.out, lexL_err hne hRe.symm, hKg.out]; rfl
     have hO' := hide (hO.mono fun e w' h => (h : (∃ (k : Int) (S : ByteArray) (wd nh nl b : Int), e = .returned (.tuple #[.agg #[.int .u8 k, .string S, .int .i64 wd, .int .u64 nh, .int .u64 nl, .int .i64 b], .int .i64 n])) ∧ Below wr.heap.size wr w'))
     have hFt := hide (fun W => fault02_any s K n W hKs hs hn0)
     unfold faultV at hFt
     have hv := hide (show ∀ W, LexE s.data.toList (.returned (.tuple #[.slice none 0 0, .agg #[.int .i64 n, .int .i64 (((placeR (s.data.toList.take K)).1 : Nat) : Int), .int .i64 (((placeR (s.data.toList.take K)).2 : Nat) : Int)]])) W from fun W => by unfold LexE; rw [hR']; rfl)
     generalize (((placeR (s.data.toList.take K)).1 : Nat) : Int) = pl at hFt hv
     generalize (((placeR (s.data.toList.take K)).2 : Nat) : Int) = pc at hFt hv
     have hn0b : (n == 0) = false := beq_eq_false_iff_ne.2 hn0
     have hn0c : ¬ n = 0 := hn0
     clear hR' hR hRe hne hdk hO hT hSk c0 c1 c2 f0 f1 f2
     go_wp2_with (first | (go_at_call 54; refine hO'.out.mono ?_; rintro e w2 ⟨⟨tk, tS, tw, th, tl, tb, rfl⟩, hb2⟩) | (go_at_call 28; refine (hFt.out _).mono ?_; rintro e w3 ⟨rfl, hb3⟩; have hb23 := hb2.trans (((Below.refl w2.heap.size w2).alloc (Nat.le_refl _) (.cells #[.int .u8 tk, .string tS, .int .i64 tw, .int .u64 th, .int .u64 tl, .int .i64 tb] 64)).mono hb2.size); have hb9 := hb23.trans (hb3.mono hb23.size); obtain ⟨q, c0, c1, c2, f0, f1, f2⟩ := hF.out.below hb9 lt))
     exact bodyPost_ret (v := .tuple #[.slice none 0 0, .agg #[.int .i64 n, .int .i64 pl, .int .i64 pc]]) (by simp [results, Tryz.results18, go_sem, c0, c1, c2, q]) rfl ⟨hv.out _, pl_below3 (hB.out.trans (hb9.mono hB.out.size)) (Nat.le_refl _) _ _ _⟩
    | ok x =>
     obtain ⟨kd, sl, wd, n⟩ := x
     have hpos := oneR_pos hRe.symm
     rw [hdk, List.length_drop, ← Lib.size_eq] at hpos
     simp only at hpos
     obtain ⟨sB, hsB⟩ : ∃ sB : ByteArray, sB = ⟨sl.toArray⟩ := ⟨_, rfl⟩
     have hsz : sB.size = sl.length := by rw [hsB, Lib.size_eq]
     have hR' := hide (show lexR s.data.toList = preT (acc ++ [⟨kd, sl, wd, n, K⟩]) (lexL fu (K + sl.length) (s.data.toList.drop (K + sl.length))) from by rw [hR.out, lexL_ok hne hRe.symm, preT_cons, hdk, hKg.out, List.drop_drop])
     have hO' := hide (show Calls Tryz.prog 54 #[.string s, .int .i64 (K : Int)] wr fun e w' => e = .returned (.tuple #[.agg #[.int .u8 (kd : Int), .string sB, .int .i64 (wd : Int), .int .u64 ((n / 18446744073709551616 : Nat) : Int), .int .u64 ((n % 18446744073709551616 : Nat) : Int), .int .i64 (K : Int)], .int .i64 0]) ∧ Below wr.heap.size wr w' from by rw [hsB]; exact hO)
     have htv : (tkV ⟨kd, sl, wd, n, K⟩).toArray = #[.int .u8 (kd : Int), .string sB, .int .i64 (wd : Int), .int .u64 ((n / 18446744073709551616 : Nat) : Int), .int .u64 ((n % 18446744073709551616 : Nat) : Int), .int .i64 (K : Int)] := by rw [hsB]; rfl
     have hzz : (((K + sl.length : Nat)) : Int) = (K : Int) + (sB.size : Int) := by rw [hsz]; omega
     have hS1 := hide (fun W => show Calls Tryz.prog 53 #[.string s, .int .i64 ((K : Int) + (sB.size : Int))] W fun e w' => e = .returned (.int .i64 ((gapAt s (K + sl.length) : Nat) : Int)) ∧ w' = W from by rw [← hzz]; exact hSk.out (K + sl.length) (by omega) W)
     have hg2 := gapAt_le s (K + sl.length) (by omega)
     have hsbz : (K : Int) + (sB.size : Int) ≤ 65536 := by rw [hsz]; omega
     clear hne hdk hO hRe hsB hzz hR
     generalize ((n / 18446744073709551616 : Nat) : Int) = nh at hO' htv
     generalize ((n % 18446744073709551616 : Nat) : Int) = nl at hO' htv
     generalize hkd : (kd : Int) = kz at hO' htv
     generalize hwd : (wd : Int) = wz at hO' htv
     replace htv := hide htv
     replace hkd := hide hkd
     replace hwd := hide hwd
     replace hsz := hide hsz
     go_upto_region 9 with (go_at_call 54; refine hO'.out.mono ?_; rintro e w5 ⟨rfl, hb5⟩)
     have hT5 := hT.out.below hb5 (Nat.le_refl _)
     have hB5 := hB.out.trans (hb5.mono hB.out.size)
     have hF5 := hF.out.below hb5 lt
     have hz5 := hb5.size
     obtain ⟨w6, hw6, hs6', hb6, hc6, hf6⟩ := box1 w5 #[.int .u8 kz, .string sB, .int .i64 wz, .int .u64 nh, .int .u64 nl, .int .i64 (K : Int)] 64
     have hT6 := hT5.below hb6 (Nat.le_refl _)
     have hB6 := hB5.trans (hb6.mono hB5.size)
     have hF6 := hF5.below hb6 hF5.lt
     obtain ⟨v', w7, hrun, hT7, hb7, hkeep⟩ := append_t ⟨kd, sl, wd, n, K⟩ hT6 (by have := hF6.lt; omega) (by unfold bigI; omega)
     rw [htv.out] at hrun
     have hown : some w5.heap.size ≠ (Value.slice A acc.length cap).ownBlock := fun h => by
      have := (World.ownsRow.lt hT5 _ h.symm).2
      omega
     have h57 : w7.heap[w5.heap.size]? = w6.heap[w5.heap.size]? := hkeep _ (by omega) hown
     have t1 : w7.cell? ⟨w5.heap.size, 1, none⟩ = some (.string sB) := (World.cell?_of_block (a := ⟨w5.heap.size, 1, none⟩) h57).trans (hc6 1)
     have b0 := hc6 0
     have b1 := hc6 1
     have b2 := hc6 2
     have b3 := hc6 3
     have b4 := hc6 4
     have b5 := hc6 5
     simp at b0 b1 b2 b3 b4 b5
     obtain ⟨A', cap', hv'⟩ := hT7.form
     have hv2 : v' = .slice A' (acc.length + 1) cap' := by rw [hv', List.length_append]; rfl
     clear hv'
     subst hv2
     have hTF := hide hT7
     have hBF := hide (hB6.trans (hb7.mono (Nat.le_succ _)))
     have hFF := hide (hF6.below hb7 (by omega))
     have h56 : w5.heap.size < w6.heap.size := by omega
     have h57' : w5.heap.size < w7.heap.size := Nat.lt_of_lt_of_le h56 hb7.size
     replace hs6' := hide hs6'
     clear hown hkeep h57 hT5 hB5 hT6 hB6 hb6 hb7 hT7 hb5 hc6 hf6 hF5 hF6 hT
     go_wp2_with (go_at_call 53; refine (hS1.out _).mono ?_; rintro e w' ⟨rfl, rfl⟩)
     go_roundw
     case rel => exact ⟨K + sl.length, gapAt s (K + sl.length), acc ++ [⟨kd, sl, wd, n, K⟩], fu, rfl, by omega, rfl, hFF, hTF, by rw [List.length_append]; simp; omega, by omega, hR', hBF⟩
     case measure => simp [intOf]; omega
   ·obtain rfl : K = s.size := by omega
    have hnil : (s.data.toList.drop k).drop (gap false (s.data.toList.drop k)) = [] := by
     rw [hdk]; exact List.drop_eq_nil_of_le (by rw [← Lib.size_eq]; omega)
    have hR1 := hide (show lexR s.data.toList = .ok (acc ++ [⟨0, [], 0, 0, s.size⟩]) from by rw [hR.out, lexL_end hnil, hKg.out]; rfl)
    obtain ⟨v', w3, hrun, hT3, hb3, -⟩ := append_t ⟨0, [], 0, 0, s.size⟩ hT.out (by omega) (by unfold bigI; omega)
    rw [show (tkV ⟨0, [], 0, 0, s.size⟩).toArray = #[.int .u8 0, .string ⟨#[]⟩, .int .i64 0, .int .u64 0, .int .u64 0, .int .i64 (s.size : Int)] from by simp [tkV, tkC]] at hrun
    obtain ⟨A', cap', hv'⟩ := hT3.form
    have hv2 : v' = .slice A' (acc.length + 1) cap' := by rw [hv', List.length_append]; rfl
    clear hv'
    subst hv2
    obtain ⟨lt3, y0, y1, y2, g0, g1, g2⟩ := hF.out.below hb3 (by omega)
    have hBF := hide (pl_below3 (hB.out.trans (hb3.mono (by omega))) (Nat.le_refl w.heap.size) (.int .i64 0) (.int .i64 0) (.int .i64 0))
    have hTF := hide (show TkS (((w3.setCell ⟨w.heap.size, 0, none⟩ (.int .i64 0)).setCell ⟨w.heap.size, 1, none⟩ (.int .i64 0)).setCell ⟨w.heap.size, 2, none⟩ (.int .i64 0)) (w.heap.size + 1) (.slice A' (acc.length + 1) cap') (acc ++ [⟨0, [], 0, 0, s.size⟩]) from ((hT3.set (k := w.heap.size) (by omega)).set (k := w.heap.size) (by omega)).set (k := w.heap.size) (by omega))
    clear hT3 hb3 hdk hK hKg hnil hR hT hF hB hSk hKe hKs
    go_wp2
    refine bodyPost_ret (v := .tuple #[.slice A' (acc.length + 1) cap', .agg #[.int .i64 0, .int .i64 0, .int .i64 0]]) (by simp [results, Tryz.results18, go_sem, y0, y1, y2, lt3]) rfl ⟨?_, hBF.out⟩
    obtain ⟨A2, cap2, hv3, hS⟩ := hTF.out.sl
    unfold LexE
    rw [hR1.out]
    refine ⟨A2, cap2, ?_, hS⟩
    rw [← hv3]
    rfl
end Go.Proofs.YtbjokgnnklcbcaaGreatDoor

import Derived.Test.YtmapiiclmmmpbaaGreatDoorTkb26
import Derived.BigQuiet
import Derived.Lib.QuietBelow
import Derived.Test.YtmapiiclmmmpbaaGreatDoorTkb07
import Derived.Lib.Strings
import Derived.Lib.Join
set_option linter.all false
/-! Layer 3: the law TokenLexes. -/
namespace Go.Proofs.YtmapiiclmmmpbaaGreatDoor
open Go.RowKit
/-- A box of a fault. -/
structure GBox (W : World) (g : Nat) (n pl pc : Int) : Prop where
 lt : g < W.heap.size
 c0 : W.cell? ⟨g, 0, none⟩ = some (.int .i64 n)
 c1 : W.cell? ⟨g, 1, none⟩ = some (.int .i64 pl)
 c2 : W.cell? ⟨g, 2, none⟩ = some (.int .i64 pc)
 f0 : W.frozen? ⟨g, 0, none⟩ = false
 f1 : W.frozen? ⟨g, 1, none⟩ = false
 f2 : W.frozen? ⟨g, 2, none⟩ = false
theorem GBox.below {W W' : World} {g B : Nat} {n pl pc : Int} (h : GBox W g n pl pc) (hb : Below B W W') (hg : g < B) : GBox W' g n pl pc := by
 have kk := bcell' hb
 exact ⟨Nat.lt_of_lt_of_le h.lt hb.size, (kk.1 g 0 hg).trans h.c0, (kk.1 g 1 hg).trans h.c1, (kk.1 g 2 hg).trans h.c2, (kk.2 g 0 hg).trans h.f0, (kk.2 g 1 hg).trans h.f1, (kk.2 g 2 hg).trans h.f2⟩
theorem GBox.new (W : World) (n pl pc : Int) (t : TypeId) : GBox (W.alloc (.cells #[.int .i64 n, .int .i64 pl, .int .i64 pc] t)) W.heap.size n pl pc := by
 obtain ⟨wa, hwa, hsa, hba, hca, hfa⟩ := box1 W #[.int .i64 n, .int .i64 pl, .int .i64 pc] t
 rw [hwa]
 exact ⟨by omega, hca 0, hca 1, hca 2, hfa 0, hfa 1, hfa 2⟩
set_option maxRecDepth 100000 in
set_option maxHeartbeats 8000000 in
theorem tokenlexes_any (s : ByteArray) (w : World) (hs : s.size < 4294967281) (hV : VarS w) :
  Calls Tryz.prog 3 #[.string s] w fun e w' => e = .returned (.bool true) ∧ Below w.heap.size w w' := by
 have hsl : s.size ≤ 9223372036854775807 := by omega
 have hsm : s.size ≤ maxLen := by unfold maxLen; omega
 by_cases hmid : 1500 < s.size ∧ s.size ≤ 65536
 ·have h1 : (1500 : Int) < (s.size : Int) := by omega
  have h2 : (s.size : Int) ≤ 65536 := by omega
  have hKn := hide (known03_any w hV)
  clear hmid
  go_enter Tryz.func3, Tryz.ntmps3
  go_wp2_with (go_at_call 5; refine hKn.out.mono ?_; rintro e wk ⟨rfl, hbk⟩)
  go_ret
  exact ⟨rfl, hbk⟩
 ·have hL1 := lex_any s w (by omega) hV
  have hL2 := fun W => lex03_any s W (by omega)
  unfold LexE at hL1 hL2
  go_enter Tryz.func3, Tryz.ntmps3
  go_upto_region 1 with (fail)
  go_cut [14] (fun b wx => b = .bool false ∧ wx = w)
  case first =>
   by_cases h1 : (1500 : Int) < (s.size : Int)
   ·have h2 : ¬ (s.size : Int) ≤ 65536 := by omega
    clear hL1 hL2 hmid
    go_wp2
    go_meet
    exact ⟨rfl, rfl⟩
   ·clear hL1 hL2 hmid
    go_wp2
    go_meet
    exact ⟨rfl, rfl⟩
  case rest =>
  obtain ⟨rfl, hcx⟩ := hcut
  replace hcx := hcx.symm
  subst hcx
  clear hmid
  cases hR : lexR s.data.toList with
  | ok r =>
   rw [hR] at hL1 hL2
   simp only at hL1 hL2
   replace hL1 := hide (show Calls Tryz.prog _ _ w fun e w' => (∃ A cap, e = .returned (.tuple #[.slice A r.length cap, .agg #[.int .i64 0, .int .i64 0, .int .i64 0]]) ∧ Sl 6 rTk w' w'.heap.size A r) ∧ Below w.heap.size w w' from hL1)
   replace hL2 := hide (fun W => show Calls Tryz.prog 7 #[.string s] W fun e w' => (∃ A cap, e = .returned (.tuple #[.slice A r.length cap, .agg #[.int .i64 0, .int .i64 0, .int .i64 0]]) ∧ Sl 6 rTk w' w'.heap.size A r) ∧ Below W.heap.size W w' from hL2 W)
   clear hR
   go_upto_region 4 with (go_at_call 6; refine hL1.out.mono ?_; rintro e w1 ⟨⟨A, cap, rfl, hS⟩, hb1⟩)
   have hX := hide (GBox.new w1 0 0 0 28)
   have hSa := hS.alloc sta_tk (Nat.le_refl _) (.cells #[.int .i64 0, .int .i64 0, .int .i64 0] 28)
   have hba := hb1.alloc hb1.size (.cells #[.int .i64 0, .int .i64 0, .int .i64 0] 28)
   have hsz : w1.heap.size < (w1.alloc (.cells #[.int .i64 0, .int .i64 0, .int .i64 0] 28)).heap.size := by simp
   generalize w1.alloc (.cells #[.int .i64 0, .int .i64 0, .int .i64 0] 28) = w2 at hX hSa hba hsz ⊢
   go_upto_region 5 with (go_at_call 7; refine (hL2.out _).mono ?_; rintro e w3 ⟨⟨A', cap', rfl, hS'⟩, hb3⟩)
   have hY := hide (GBox.new w3 0 0 0 28)
   have hSb := hS'.alloc sta_tk (Nat.le_refl _) (.cells #[.int .i64 0, .int .i64 0, .int .i64 0] 28)
   have hbb := hb3.alloc hb3.size (.cells #[.int .i64 0, .int .i64 0, .int .i64 0] 28)
   have hszb : w3.heap.size < (w3.alloc (.cells #[.int .i64 0, .int .i64 0, .int .i64 0] 28)).heap.size := by simp
   generalize w3.alloc (.cells #[.int .i64 0, .int .i64 0, .int .i64 0] 28) = wq at hY hSb hbb hszb ⊢
   have hz3 := hb3.size
   have hbq := hide (hba.trans (hbb.mono hba.size))
   have hSx : Sl 6 rTk wq wq.heap.size A r := (hSa.keep sta_tk fun q hq => hbb.cell (Nat.lt_trans hq hsz)).more sta_tk (by omega)
   have hSy : Sl 6 rTk wq wq.heap.size A' r := hSb.more sta_tk (by omega)
   have hSm := hide (same_t r r A A' cap cap' wq hSx hSy rfl fun i h h' => ⟨rfl, rfl, rfl, rfl, fun _ => rfl⟩)
   have hX2 := hX.out.below hbb hX.out.lt
   replace hX := hide (fun (W : World) (hW : Below wq.heap.size wq W) => hX2.below hW hX2.lt)
   replace hY := hide (fun (W : World) (hW : Below wq.heap.size wq W) => hY.out.below hW hY.out.lt)
   clear hX2 hS hSa hb1 hba hsz hS' hb3 hSb hbb hszb hSx hSy hL1 hL2 hz3
   have hVq := hide (hV.below hbq.out (Nat.le_refl _))
   have hSt : ∀ W, Below wq.heap.size wq W → Below w.heap.size w W := fun W hW => hbq.out.trans (hW.mono hbq.out.size)
   replace hSt := hide hSt
   have hKw := hide (show ∀ (W : World), Below wq.heap.size wq W → Calls Tryz.prog 9 #[.string s] W fun e w' => e = .returned (.bool (kwB s)) ∧ Below wq.heap.size wq w' from fun W hW => by
    obtain ⟨m, hm⟩ := (hVq.out.below hW (Nat.le_refl _)).m
    exact (isKeyword_any s m W hs hm).mono fun e w' h => ⟨h.1, h.2 ▸ hW⟩)
   have hKw3 := hide (fun (W : World) (hW : Below wq.heap.size wq W) => (isKeyword03_any s W).mono fun e w' h => (⟨h.1, hW.trans (h.2.mono hW.size)⟩ : e = .returned (.bool (kwB s)) ∧ Below wq.heap.size wq w'))
   have hNm := hide (show ∀ (W : World), Below wq.heap.size wq W → Calls Tryz.prog 11 #[.string s] W fun e w' => e = .returned (.bool (nameB s)) ∧ Below wq.heap.size wq w' from fun W hW => by
    obtain ⟨m, hm⟩ := (hVq.out.below hW (Nat.le_refl _)).m
    exact (isName_any s m W hsm hm).mono fun e w' h => ⟨h.1, h.2 ▸ hW⟩)
   have hNm3 := hide (fun (W : World) (hW : Below wq.heap.size wq W) => (isName03_any s W).mono fun e w' h => (⟨h.1, hW.trans (h.2.mono hW.size)⟩ : e = .returned (.bool (nameB s)) ∧ Below wq.heap.size wq w'))
   have hKn := hide (fun (W : World) (hW : Below wq.heap.size wq W) => (known03_any W (hVq.out.below hW (Nat.le_refl _))).mono fun e w' h => (⟨h.1, hW.trans (h.2.mono hW.size)⟩ : e = .returned (.bool true) ∧ Below wq.heap.size wq w'))
   generalize kwB s = kb at hKw hKw3
   generalize nameB s = nb at hNm hNm3
   go_wp2_with (first
    | (go_at_call 8; refine hSm.out.mono ?_; rintro e w5 ⟨rfl, hb5⟩; obtain ⟨-, x0, x1, x2, -, -, -⟩ := hX.out w5 hb5; obtain ⟨-, y0, y1, y2, -, -, -⟩ := hY.out w5 hb5)
    | (go_at_call 9; refine (hKw.out _ hb5).mono ?_; rintro e w6 ⟨rfl, hb6⟩)
    | (go_at_call 10; refine (hKw3.out _ hb6).mono ?_; rintro e w7 ⟨rfl, hb7⟩)
    | (go_at_call 11; refine (hNm.out _ hb7).mono ?_; rintro e w8 ⟨rfl, hb8⟩)
    | (go_at_call 12; refine (hNm3.out _ hb8).mono ?_; rintro e w9 ⟨rfl, hb9⟩)
    | (go_at_call 5; refine (hKn.out _ hb9).mono ?_; rintro e wk ⟨rfl, hbk⟩))
   go_ret
   exact ⟨rfl, hSt.out _ hbk⟩
  | error x =>
   obtain ⟨n, k⟩ := x
   rw [hR] at hL1 hL2
   simp only [faultV] at hL1 hL2
   generalize (((placeR (s.data.toList.take k)).1 : Nat) : Int) = pl at hL1 hL2
   generalize (((placeR (s.data.toList.take k)).2 : Nat) : Int) = pc at hL1 hL2
   replace hL1 := hide hL1
   replace hL2 := hide hL2
   clear hR
   go_upto_region 4 with (go_at_call 6; refine hL1.out.mono ?_; rintro e w1 ⟨rfl, hb1⟩)
   have hX := hide (GBox.new w1 n pl pc 28)
   have hba := hb1.alloc hb1.size (.cells #[.int .i64 n, .int .i64 pl, .int .i64 pc] 28)
   generalize w1.alloc (.cells #[.int .i64 n, .int .i64 pl, .int .i64 pc] 28) = w2 at hX hba ⊢
   go_upto_region 5 with (go_at_call 7; refine (hL2.out _).mono ?_; rintro e w3 ⟨rfl, hb3⟩)
   have hY := hide (GBox.new w3 n pl pc 28)
   have hbb := hb3.alloc hb3.size (.cells #[.int .i64 n, .int .i64 pl, .int .i64 pc] 28)
   generalize w3.alloc (.cells #[.int .i64 n, .int .i64 pl, .int .i64 pc] 28) = wq at hY hbb ⊢
   have hz3 := hb3.size
   have hbq := hide (hba.trans (hbb.mono hba.size))
   have hSm := hide (show Calls Tryz.prog 8 #[.slice none 0 0, .slice none 0 0, .bool true] wq _ from same_t [] [] none none 0 0 wq Sl.nil_ Sl.nil_ rfl fun i h h' => by simp at h)
   have hX2 := hX.out.below hbb hX.out.lt
   replace hX := hide (fun (W : World) (hW : Below wq.heap.size wq W) => hX2.below hW hX2.lt)
   replace hY := hide (fun (W : World) (hW : Below wq.heap.size wq W) => hY.out.below hW hY.out.lt)
   clear hX2 hb1 hba hb3 hbb hL1 hL2 hz3
   have hVq := hide (hV.below hbq.out (Nat.le_refl _))
   have hSt : ∀ W, Below wq.heap.size wq W → Below w.heap.size w W := fun W hW => hbq.out.trans (hW.mono hbq.out.size)
   replace hSt := hide hSt
   have hKw := hide (show ∀ (W : World), Below wq.heap.size wq W → Calls Tryz.prog 9 #[.string s] W fun e w' => e = .returned (.bool (kwB s)) ∧ Below wq.heap.size wq w' from fun W hW => by
    obtain ⟨m, hm⟩ := (hVq.out.below hW (Nat.le_refl _)).m
    exact (isKeyword_any s m W hs hm).mono fun e w' h => ⟨h.1, h.2 ▸ hW⟩)
   have hKw3 := hide (fun (W : World) (hW : Below wq.heap.size wq W) => (isKeyword03_any s W).mono fun e w' h => (⟨h.1, hW.trans (h.2.mono hW.size)⟩ : e = .returned (.bool (kwB s)) ∧ Below wq.heap.size wq w'))
   have hNm := hide (show ∀ (W : World), Below wq.heap.size wq W → Calls Tryz.prog 11 #[.string s] W fun e w' => e = .returned (.bool (nameB s)) ∧ Below wq.heap.size wq w' from fun W hW => by
    obtain ⟨m, hm⟩ := (hVq.out.below hW (Nat.le_refl _)).m
    exact (isName_any s m W hsm hm).mono fun e w' h => ⟨h.1, h.2 ▸ hW⟩)
   have hNm3 := hide (fun (W : World) (hW : Below wq.heap.size wq W) => (isName03_any s W).mono fun e w' h => (⟨h.1, hW.trans (h.2.mono hW.size)⟩ : e = .returned (.bool (nameB s)) ∧ Below wq.heap.size wq w'))
   have hKn := hide (fun (W : World) (hW : Below wq.heap.size wq W) => (known03_any W (hVq.out.below hW (Nat.le_refl _))).mono fun e w' h => (⟨h.1, hW.trans (h.2.mono hW.size)⟩ : e = .returned (.bool true) ∧ Below wq.heap.size wq w'))
   generalize kwB s = kb at hKw hKw3
   generalize nameB s = nb at hNm hNm3
   go_wp2_with (first
    | (go_at_call 8; refine hSm.out.mono ?_; rintro e w5 ⟨rfl, hb5⟩; obtain ⟨-, x0, x1, x2, -, -, -⟩ := hX.out w5 hb5; obtain ⟨-, y0, y1, y2, -, -, -⟩ := hY.out w5 hb5)
    | (go_at_call 9; refine (hKw.out _ hb5).mono ?_; rintro e w6 ⟨rfl, hb6⟩)
    | (go_at_call 10; refine (hKw3.out _ hb6).mono ?_; rintro e w7 ⟨rfl, hb7⟩)
    | (go_at_call 11; refine (hNm.out _ hb7).mono ?_; rintro e w8 ⟨rfl, hb8⟩)
    | (go_at_call 12; refine (hNm3.out _ hb8).mono ?_; rintro e w9 ⟨rfl, hb9⟩)
    | (go_at_call 5; refine (hKn.out _ hb9).mono ?_; rintro e wk ⟨rfl, hbk⟩))
   go_ret
   exact ⟨rfl, hSt.out _ hbk⟩
end Go.Proofs.YtmapiiclmmmpbaaGreatDoor
/-! Layer 3: the same tokens. -/
namespace Go.Proofs.YtmapiiclmmmpbaaGreatDoor
open Go.RowKit
set_option maxRecDepth 100000 in
set_option maxHeartbeats 8000000 in
theorem same_f (xs ys : List Tk) (A A' : Option Addr) (cap cap' : Nat) (w : World) (hx : Sl 6 rTk w w.heap.size A xs) (hy : Sl 6 rTk w w.heap.size A' ys) (hlen : xs.length = ys.length) (hal : ∀ i (h : i < xs.length) (h' : i < ys.length), alike false xs[i] ys[i]) :
  Calls Tryz.prog 8 #[.slice A xs.length cap, .slice A' ys.length cap', .bool false] w fun e w' => e = .returned (.bool true) ∧ Below w.heap.size w w' := by
 have hlx := hx.len
 obtain ⟨L, hL⟩ : ∃ L, L = xs.length := ⟨_, rfl⟩
 have hL' : L = ys.length := hL.trans hlen
 rw [← hL] at hlx ⊢
 rw [← hL']
 replace hL := hide hL
 replace hL' := hide hL'
 clear hlen
 go_enter Tryz.func8, Tryz.ntmps8
 go_wp2
 go_loopw [7] (fun i wr => ∃ k : Nat, k ≤ L ∧ i = .int .i64 k ∧ Hid (Below w.heap.size w wr)) (fun i _ => L - (intOf i).toNat)
 case atStart => exact ⟨0, Nat.zero_le _, rfl, hide (Below.refl _ _)⟩
 case round =>
  obtain ⟨k, hk, rfl, hB⟩ := hrel
  have hzr := hB.out.size
  have hg := gcell' hB.out hzr
  by_cases hlt : k < L
  ·have hkz : (k : Int) < (L : Int) := by omega
   have hk0 : (0 : Int) ≤ (k : Int) := by omega
   have h1 : k < xs.length := by rw [← hL.out]; exact hlt
   have h2 : k < ys.length := by rw [← hL'.out]; exact hlt
   obtain ⟨b, o, rfl, hb, a0, a1, a2, a3, a4, a5⟩ := hx.tok h1
   obtain ⟨b', o', rfl, hb', b0, b1, b2, b3, b4, b5⟩ := hy.tok h2
   obtain ⟨e0, e1, e2, e3, e5⟩ := hal k h1 h2
   rw [← e0] at b0
   rw [← e1] at b1
   rw [← e2] at b2
   rw [← e3] at b3 b4
   have e5' : true = true := rfl
   clear e0 e1 e2 e3 e5
   generalize (xs[k].kind : Int) = v0 at a0 b0
   generalize (⟨xs[k].s.toArray⟩ : ByteArray) = v1 at a1 b1
   generalize (xs[k].w : Int) = v2 at a2 b2
   generalize ((xs[k].n / 18446744073709551616 : Nat) : Int) = v3 at a3 b3
   generalize ((xs[k].n % 18446744073709551616 : Nat) : Int) = v4 at a4 b4
   generalize (xs[k].pl : Int) = v5 at a5
   generalize (ys[k].pl : Int) = v6 at b5
   clear hx hy hal h1 h2
   clear e5'
   go_wp2_with fail
   refine wp_region_quiet_below (by kernel_rfl) (by kernel_rfl) ?_
   simp only [List.append]
   repeat go_big_quiet_step (fail)
   refine wpQuiet_nil ?_
   intro w1 hw1
   replace hw1 := below_of_regrown hw1
   have hB1 := hide (hB.out.trans (hw1.mono hzr))
   clear hg
   go_wp2
   go_roundw
   case rel => exact ⟨k + 1, by omega, by go_num, hB1⟩
   case measure => simp [intOf]; omega
  ·go_wp2
   go_ret
   exact ⟨rfl, hB.out⟩
end Go.Proofs.YtmapiiclmmmpbaaGreatDoor
/-! Plain: tokens, written side by side with something between, are lexed as the same ones. -/
namespace Go.Proofs.YtmapiiclmmmpbaaGreatDoor
open Go.Lib
theorem gap_done : ∀ (b : Bool) (l : List UInt8), gap false (l.drop (gap b l)) = 0
 | _, [] => by simp [gap]
 | false, c :: r => by
  have h1 := gap_done false r
  have h2 := gap_done true r
  simp only [gap]
  split
  ·simpa using h1
  ·split
   ·simpa using h2
   ·simp [gap, *]
 | true, c :: r => by
  have h1 := gap_done false r
  have h2 := gap_done true r
  simp only [gap]
  split
  ·simpa using h1
  ·simpa using h2
theorem markF_prefix (l : List UInt8) : ∀ ms : List (List UInt8), markF ms l <+: l
 | [] => by
  unfold markF
  split
  ·exact List.take_prefix _ _
  ·exact List.nil_prefix
 | m :: r => by
  unfold markF
  split
  ·rename_i h
   exact List.isPrefixOf_iff_prefix.1 h
  ·exact markF_prefix l r
theorem markF_again (l y : List UInt8) (hy : ∀ c t, y = c :: t → wsB c = true) : ∀ ms : List (List UInt8), (∀ q ∈ ms, ∀ c ∈ q, wsB c = false) → markF ms l ≠ [] → markF ms (markF ms l ++ y) = markF ms l
 | [], _, h => by
  cases l with
  | nil => simp [markF] at h
  | cons c t =>
   have e : markF [] (c :: t) = [c] := by
    unfold markF at h ⊢
    by_cases hk : 0 ≤ indexByte shortMarks ((c :: t).headD 0)
    ·rw [if_pos hk]; rfl
    ·rw [if_neg hk] at h; exact absurd rfl h
   rw [e]
   unfold markF at e ⊢
   by_cases hk : 0 ≤ indexByte shortMarks ((c :: t).headD 0)
   ·rw [if_pos (by simpa using hk)]; rfl
   ·rw [if_neg hk] at e; cases e
 | m :: r, hq, h => by
  have hr := markF_prefix l r
  by_cases hp : hasPrefix l m = true
  ·have e : markF (m :: r) l = m := by rw [markF, if_pos hp]
   rw [e, markF, if_pos (show hasPrefix (m ++ y) m = true from List.isPrefixOf_iff_prefix.2 (List.prefix_append _ _))]
  ·have e : markF (m :: r) l = markF r l := by rw [markF, if_neg hp]
   rw [e] at h ⊢
   have ih := markF_again l y hy r (fun q hm => hq q (List.mem_cons_of_mem _ hm)) h
   rw [markF, if_neg, ih]
   intro hm
   have hm' : m <+: markF r l ++ y := List.isPrefixOf_iff_prefix.1 hm
   by_cases hlen : m.length ≤ (markF r l).length
   ·exact hp (List.isPrefixOf_iff_prefix.2 ((List.prefix_of_prefix_length_le hm' (List.prefix_append _ _) hlen).trans hr))
   ·obtain ⟨u, hu⟩ := List.prefix_of_prefix_length_le (List.prefix_append (markF r l) y) hm' (by omega)
    have hu2 : u <+: y := by
     rw [← hu] at hm'
     exact (List.prefix_append_right_inj _).1 hm'
    cases u with
    | nil => rw [List.append_nil] at hu; rw [hu] at hlen; omega
    | cons c t =>
     cases y with
     | nil => simp at hu2
     | cons c' t' =>
      have hc : c = c' := by have := hu2; rw [List.cons_prefix_cons] at this; exact this.1
      have := hq m List.mem_cons_self c (by rw [← hu]; simp)
      rw [hc, hy c' t' rfl] at this
      cases this
theorem wlenL_takeWhile (l : List UInt8) : l.take (wlenL l) = l.takeWhile fun c => wordB c.toNat := by
 have := List.takeWhile_prefix (fun c : UInt8 => wordB c.toNat) (l := l)
 exact (List.prefix_iff_eq_take.1 this).symm
theorem ws_nonword {c : UInt8} (h : wsB c = true) : wordB (c.toNat : Nat) = false := by
 rw [ws_iff] at h
 cases hw : wordB (c.toNat : Nat) with
 | false => rfl
 | true =>
  unfold wordB digitB letterB at hw
  simp only [Bool.or_eq_true, decide_eq_true_eq] at hw
  omega
/-- What stands at the head stays the same token, if something white stands behind it. -/
theorem oneR_again {l : List UInt8} {x : Nat × List UInt8 × Nat × Nat} (h : oneR l = .ok x) (hg : gap false l = 0) (c0 : UInt8) (t0 : List UInt8) (hc : wsB c0 = true) :
  oneR (x.2.1 ++ c0 :: t0) = .ok x ∧ gap false (x.2.1 ++ c0 :: t0) = 0 ∧ x.2.1 <+: l ∧ x.2.1 ≠ [] := by
 have hy : ∀ c t, c0 :: t0 = c :: t → wsB c = true := fun c t e => by injection e with e1 _; rw [← e1]; exact hc
 have hnw := ws_nonword hc
 have hpre : x.2.1 <+: l ∧ x.2.1 ≠ [] := by
  unfold oneR at h
  simp only at h
  split at h
  ·split at h
   ·cases h
   ·rename_i hm
    injection h with h
    rw [← h]
    exact ⟨markF_prefix l longMarks, hm⟩
  ·rename_i hw
   split at h
   ·split at h
    ·cases h
    ·injection h with h
     rw [← h]
     exact ⟨List.take_prefix _ _, hw⟩
   ·split at h
    ·cases h
    ·injection h with h
     rw [← h]
     exact ⟨List.take_prefix _ _, hw⟩
 refine ⟨?_, ?_, hpre⟩
 ·unfold oneR at h
  simp only at h
  split at h
  ·rename_i hw
   split at h
   ·cases h
   ·rename_i hm
    injection h with h
    have hx : x.2.1 = markL l := by rw [← h]
    have hz : wlenL (x.2.1 ++ c0 :: t0) = 0 := by
     obtain ⟨u, hu⟩ := hpre.1
     rw [wlenL_takeWhile] at hw
     match hxx : x.2.1, hpre.2 with
     | a :: b, _ =>
      rw [hxx] at hu
      rw [← hu] at hw
      unfold wlenL
      simp only [List.cons_append, List.takeWhile_cons] at hw ⊢
      split at hw
      ·cases hw
      ·rename_i h2; rw [if_neg h2]; rfl
    have ha := markF_again l (c0 :: t0) hy longMarks (by decide) hm
    unfold oneR
    simp only [hz, List.take_zero, if_true]
    rw [hx]
    show (if markL (markL l ++ c0 :: t0) = [] then _ else _) = _
    rw [show markL (markL l ++ c0 :: t0) = markL l from ha, if_neg hm, h]
  ·rename_i hw
   have hx : x.2.1 = l.take (wlenL l) := by
    split at h
    ·split at h
     ·cases h
     ·injection h with h; rw [← h]
    ·split at h
     ·cases h
     ·injection h with h; rw [← h]
   have ht : (x.2.1 ++ c0 :: t0).take (wlenL (x.2.1 ++ c0 :: t0)) = l.take (wlenL l) := by
    rw [wlenL_takeWhile, hx, wlenL_takeWhile, List.takeWhile_append_of_pos (fun c hc => (List.all_eq_true.1 List.all_takeWhile) c hc), List.takeWhile_cons, if_neg (by rw [hnw]; decide), List.append_nil]
   unfold oneR
   simp only [ht]
   rw [if_neg hw]
   exact h
 ·obtain ⟨u, hu⟩ := hpre.1
  match hxx : x.2.1, hpre.2 with
  | a :: b, _ =>
   rw [hxx] at hu
   rw [← hu] at hg
   simp only [List.cons_append, gap] at hg ⊢
   split at hg
   ·omega
   ·rename_i hws
    split at hg
    ·omega
    ·rename_i hcm
     rw [if_neg hws, if_neg]
     rintro ⟨h1, h2⟩
     apply hcm
     refine ⟨h1, ?_⟩
     cases b with
     | nil =>
      simp at h2
      rw [h2] at hc
      exact absurd hc (by decide)
     | cons b1 b2 => simpa using h2
/-- What may stand between, by its number. -/
def sepB : Nat → List UInt8
 | 0 => [32]
 | 1 => [10]
 | 2 => [9, 47, 47, 32, 99, 10]
 | _ => [32, 47, 47, 32, 10, 10]
theorem sepB_gap (i : Nat) (J : List UInt8) : gap false (sepB i ++ J) = (sepB i).length + gap false J := by
 match i with
 | 0 => simp [sepB, gap, wsB]; omega
 | 1 => simp [sepB, gap, wsB]; omega
 | 2 => simp [sepB, gap, wsB]; omega
 | i + 3 => simp [sepB, gap, wsB]; omega
theorem sepB_head (i : Nat) : ∃ c t, sepB i = c :: t ∧ wsB c = true := by
 match i with
 | 0 => exact ⟨_, _, rfl, rfl⟩
 | 1 => exact ⟨_, _, rfl, rfl⟩
 | 2 => exact ⟨_, _, rfl, rfl⟩
 | i + 3 => exact ⟨_, _, rfl, rfl⟩
theorem sepB_len (i : Nat) : (sepB i).length ≤ 6 := by
 match i with
 | 0 => decide
 | 1 => decide
 | 2 => decide
 | i + 3 => exact Nat.le_refl _
theorem lexL_sep (fu k i : Nat) (J : List UInt8) : lexL (fu + 1) k (sepB i ++ J) = lexL (fu + 1) (k + (sepB i).length) J := by
 have e1 := sepB_gap i J
 have e2 : (sepB i ++ J).drop ((sepB i).length + gap false J) = J.drop (gap false J) := by
  rw [← List.drop_drop, List.drop_left]
 rw [lexL, lexL]
 simp only [e1, e2, Nat.add_assoc]
/-- Alike, but for their places. -/
def AlikeL (a b : List Tk) : Prop := a.length = b.length ∧ ∀ i (h : i < a.length) (h' : i < b.length), a[i].kind = b[i].kind ∧ a[i].s = b[i].s ∧ a[i].w = b[i].w ∧ a[i].n = b[i].n
theorem lex_again (i : Nat) : ∀ (fu k : Nat) (l : List UInt8) (r : List Tk), l.length < fu → lexL fu k l = .ok r → ∀ (fu' k' : Nat), r.length ≤ fu' → r ≠ [] ∧ ∃ r', lexL fu' k' (join (r.map (·.s)) (sepB i)) = .ok r' ∧ AlikeL r r'
 | 0, _, l, _, hf, _, _, _, _ => absurd hf (by omega)
 | fu + 1, k, l, r, hf, h, fu', k', hfu => by
  rw [lexL] at h
  split at h
  ·injection h with h
   subst h
   refine ⟨by simp, ?_⟩
   match fu', hfu with
   | fu' + 1, _ =>
    refine ⟨[⟨0, [], 0, 0, k'⟩], by simp [lexL, join, gap], rfl, fun j hj hj' => ?_⟩
    obtain rfl : j = 0 := by simp at hj; omega
    exact ⟨rfl, rfl, rfl, rfl⟩
  ·rename_i hne
   split at h
   ·cases h
   ·rename_i x hx
    split at h
    ·cases h
    ·rename_i r2 hr
     injection h with h
     subst h
     refine ⟨by simp, ?_⟩
     obtain ⟨c0, t0, hs0, hc0⟩ := sepB_head i
     have hl1 : 0 < l.length := by
      rcases Nat.eq_zero_or_pos l.length with h0 | h0
      ·exact absurd (List.drop_eq_nil_of_le (by omega)) hne
      ·exact h0
     have hdone := gap_done false l
     obtain ⟨_, _, hpre, hxne⟩ := oneR_again hx hdone c0 [] hc0
     have hx1 : 0 < x.2.1.length := List.length_pos_iff.2 hxne
     match fu', hfu with
     | fu' + 1, hfu =>
      obtain ⟨hrne, r', hr', hal⟩ := lex_again i fu _ _ r2 (by simp only [List.length_drop]; omega) hr fu' (k' + x.2.1.length + (sepB i).length) (by simp at hfu; exact hfu)
      obtain ⟨ho, hg0, _, _⟩ := oneR_again hx hdone c0 (t0 ++ join (r2.map (·.s)) (sepB i)) hc0
      have hj : join (((⟨x.1, x.2.1, x.2.2.1, x.2.2.2, k + gap false l⟩ : Tk) :: r2).map (·.s)) (sepB i) = x.2.1 ++ c0 :: (t0 ++ join (r2.map (·.s)) (sepB i)) := by
       match r2, hrne with
       | a :: b, _ => simp [join, hs0]
      have hlex : lexL fu' (k' + x.2.1.length) (c0 :: (t0 ++ join (r2.map (·.s)) (sepB i))) = .ok r' := by
       match fu', hr' with
       | 0, hr' => simpa [lexL] using hr'
       | fu' + 1, hr' =>
        rw [← lexL_sep] at hr'
        generalize join (r2.map (·.s)) (sepB i) = J at hr' ⊢
        rw [hs0] at hr'
        exact hr'
      refine ⟨⟨x.1, x.2.1, x.2.2.1, x.2.2.2, k'⟩ :: r', ?_, ?_, ?_⟩
      ·rw [hj, lexL]
       simp only [hg0, List.drop_zero, ho, List.drop_left, Nat.add_zero, hlex]
       rw [if_neg (by simp)]
      ·simpa using hal.1
      ·intro j hj hj'
       cases j with
       | zero => exact ⟨rfl, rfl, rfl, rfl⟩
       | succ j => exact hal.2 j (by simpa using hj) (by simpa using hj')
end Go.Proofs.YtmapiiclmmmpbaaGreatDoor
/-! Plain: where tokens stand; how long they are side by side. -/
namespace Go.Proofs.YtmapiiclmmmpbaaGreatDoor
open Go.Lib
theorem lexL_facts (i : Nat) (L : List UInt8) : ∀ (fu k : Nat) (l : List UInt8) (r : List Tk), l.length < fu → L.drop k = l → k + l.length = L.length → lexL fu k l = .ok r →
  r ≠ [] ∧ (∀ j (h : j < r.length), (j + 1 = r.length → r[j].kind = 0) ∧ r[j].pl ≤ L.length ∧ r[j].s <+: L.drop r[j].pl) ∧ r.length ≤ l.length + 1 ∧ (join (r.map (·.s)) (sepB i)).length + 6 ≤ l.length + 6 * r.length ∧ r.length ≤ (join (r.map (·.s)) (sepB i)).length + 1
 | 0, _, l, _, hf, _, _, _ => absurd hf (by omega)
 | fu + 1, k, l, r, hf, hd, hk, h => by
  have hgl := gap_le false l
  rw [lexL] at h
  split at h
  ·injection h with h
   subst h
   refine ⟨by simp, fun j hj => ?_, by simp, by simp [join], by simp⟩
   obtain rfl : j = 0 := by simp at hj; omega
   refine ⟨fun _ => rfl, ?_, List.nil_prefix⟩
   show k + gap false l ≤ L.length
   omega
  ·rename_i hne
   split at h
   ·cases h
   ·rename_i x hx
    split at h
    ·cases h
    ·rename_i r2 hr
     injection h with h
     subst h
     obtain ⟨_, _, hpre, hxne⟩ := oneR_again hx (gap_done false l) 32 [] rfl
     have hx1 : 0 < x.2.1.length := List.length_pos_iff.2 hxne
     have hx2 := hpre.length_le
     rw [List.length_drop] at hx2
     obtain ⟨h1, h2, h3, h4, h5⟩ := lexL_facts i L fu (k + gap false l + x.2.1.length) _ r2 (by simp only [List.length_drop]; omega) (by rw [← hd, List.drop_drop, List.drop_drop]; congr 1; omega) (by simp only [List.length_drop]; omega) hr
     simp only [List.length_drop] at h3 h4
     have hs := sepB_len i
     have hs1 : 1 ≤ (sepB i).length := by obtain ⟨c, t, e, _⟩ := sepB_head i; rw [e]; simp
     have hj : (join (((⟨x.1, x.2.1, x.2.2.1, x.2.2.2, k + gap false l⟩ : Tk) :: r2).map (·.s)) (sepB i)).length = x.2.1.length + (sepB i).length + (join (r2.map (·.s)) (sepB i)).length := by
      match r2, h1 with
      | a :: b, _ => simp [join]; omega
     refine ⟨by simp, fun j hj' => ?_, by simp only [List.length_cons]; omega, by rw [hj]; simp only [List.length_cons]; omega, by rw [hj]; simp only [List.length_cons]; omega⟩
     cases j with
     | zero =>
      refine ⟨fun e => ?_, ?_, ?_⟩
      ·have : r2.length = 0 := by simpa using e.symm
       exact absurd (List.length_eq_zero_iff.1 this) h1
      ·show k + gap false l ≤ L.length
       omega
      ·show x.2.1 <+: L.drop (k + gap false l)
       rw [← List.drop_drop, hd]
       exact hpre
     | succ j =>
      obtain ⟨a1, a2⟩ := h2 j (by simpa using hj')
      exact ⟨fun e => a1 (by simpa using e), a2⟩
theorem lex_back (i : Nat) {L : List UInt8} {r : List Tk} (hL : L.length ≤ 1500) (h : lexR L = .ok r) :
  r ≠ [] ∧ (∀ j (h : j < r.length), (j + 1 = r.length → r[j].kind = 0) ∧ r[j].pl ≤ L.length ∧ r[j].s <+: L.drop r[j].pl) ∧ r.length ≤ 1501 ∧ (join (r.map (·.s)) (sepB i)).length ≤ 65536 ∧ ∃ r', lexR (join (r.map (·.s)) (sepB i)) = .ok r' ∧ AlikeL r r' := by
 unfold lexR at h
 rw [if_neg (by omega)] at h
 obtain ⟨h1, h2, h3, h4, h5⟩ := lexL_facts i L _ 0 L r (Nat.lt_succ_self _) List.drop_zero (by omega) h
 obtain ⟨-, r', h6, h7⟩ := lex_again i _ 0 L r (Nat.lt_succ_self _) h ((join (r.map (·.s)) (sepB i)).length + 1) 0 h5
 refine ⟨h1, h2, by omega, by omega, r', ?_, h7⟩
 unfold lexR
 rw [if_neg (by omega)]
 exact h6
end Go.Proofs.YtmapiiclmmmpbaaGreatDoor

import Derived.Test.YtmapiiclmmmpbaaGreatDoorTkb27
import Derived.Test.YtmapiiclmmmpbaaGreatDoorShelf
import Derived.Test.YtmapiiclmmmpbaaGreatDoorRows
import Derived.Lib.LaidCaseMet
import Derived.Lib.LaidIn
import Derived.PinnedBridge
import Derived.Deep.DeepHandedRow
import Derived.Deep.DeepWitnessRowRef
import Derived.ProofKit
set_option linter.all false
/-! Layer 3: the law TokenBack. -/
namespace Go.Proofs.YtmapiiclmmmpbaaGreatDoor
open Go.RowKit
attribute [local go_sem ↓] app_eq
theorem str_info : (Tryz.prog.info? 9).map (fun i => (i.zero, i.size, i.bytes)) = some (some (.string ⟨#[]⟩), 1, 16) := by kernel_rfl
/-- Texts in a row of the call's own. -/
def SbS (w : World) (base : Nat) (v : Value) (l : List ByteArray) : Prop := w.ownsRow base 9 1 v l.length (l.map Value.string)
theorem SbS.nil_ (w : World) (base : Nat) : SbS w base (.slice none 0 0) [] := World.ownsRow_nil _ _ _ _
theorem SbS.below {w w' : World} {base C : Nat} {v : Value} {l : List ByteArray} (h : SbS w base v l) (hb : Below C w w') (hC : w.heap.size ≤ C) : SbS w' base v l := own_belowR h hb hC
theorem SbS.form {w : World} {base : Nat} {v : Value} {l : List ByteArray} (h : SbS w base v l) : ∃ A cap, v = .slice A l.length cap := by
 rcases h.2 with ⟨rfl, hz⟩ | ⟨g, cap, cur, rfl, _⟩
 ·exact ⟨none, 0, by rw [hz]⟩
 ·exact ⟨_, _, rfl⟩
theorem SbS.at_ {w : World} {base : Nat} {v : Value} {l : List ByteArray} (h : SbS w base v l) (hl : 0 < l.length) : ∃ g cap, v = .slice (some ⟨g, 0, none⟩) l.length cap ∧ g < w.heap.size ∧ l.length ≤ cap ∧ ∀ (j : Nat) x, l[j]? = some x → w.cell? ⟨g, 0 + j, none⟩ = some (.string x) := by
 have hf : l.map Value.string = l.flatMap fun x => [Value.string x] := by clear hl h; induction l <;> simp_all
 obtain ⟨A, cap', hv, hS⟩ : ∃ A cap, v = .slice A l.length cap ∧ Sl 1 (fun _ _ cs x => cs = [Value.string x]) w w.heap.size A l := by
  refine own_sl (f := fun x => [Value.string x]) (fun _ => rfl) (fun _ _ => rfl) (base := base) (e := 9) ?_
  rw [← hf]; exact h
 rcases h.2 with ⟨rfl, hz⟩ | ⟨g, cap, cur, rfl, hg, hh, hc, hm, hs⟩
 ·omega
 ·refine ⟨g, cap, rfl, (h.lt g rfl).2, hc, fun j x hx => ?_⟩
  obtain ⟨b, o, cs, hA, hb, -, hcc, hR⟩ := hS.2 j x hx
  injection hv with e1 e2 e3
  rw [hA] at e1
  injection e1 with e1
  injection e1 with e1 e4 e5
  have hR' : cs = [Value.string x] := hR
  have h0 := hcc 0 (.string x) (by rw [hR']; rfl)
  rw [← e1, ← e4] at h0
  simpa using h0
theorem append_sb {W : World} {base : Nat} {v : Value} {l : List ByteArray} (x : ByteArray) (hd : SbS W base v l) (hb : base ≤ W.heap.size) (hz : l.length ≤ bigI) :
  ∃ v' w', (AppG #[38, 38] 38 #[v, .slice (some ⟨W.heap.size, 0, none⟩) 1 1]).run Tryz.prog (W.alloc (.cells #[.string x] 9)) = .ok v' w' ∧ SbS w' base v' (l ++ [x]) ∧ Below base W w' := by
 unfold bigI at hz
 obtain ⟨ii, hii, hzi0, hzi1, hzi2⟩ := info_parts str_info
 obtain ⟨v', w', hrun, h2, h3, _, _⟩ := run_append_own_at (P := Tryz.prog) (W.alloc (.cells #[.string x] 9)) base 38 38 9 ii _ 1 16 Tryz.underlying38 hii hzi0 hzi1 hzi2 rfl (by omega) v l.length _ (World.ownsRow.alloc hd _) ⟨W.heap.size, 0, none⟩ 1 1 [.string x] rfl (World.news_of_block (cs := #[.string x]) (t := 9) (fr := (0, 0)) (heap_alloc_new W _)) (by simp [Value.oneCell']) (by simp [maxLen]; omega) (by omega) (by simp; omega)
 exact ⟨v', w', hrun, by unfold SbS; simpa using h2, (((Below.refl _ _).alloc hb _).grown h3 (by simp; omega) (fun g e => (hd.lt g e).1))⟩
theorem modn (b : Int) (h0 : 0 ≤ b) : b.tmod 4 = 0 ∨ b.tmod 4 = 1 ∨ b.tmod 4 = 2 ∨ b.tmod 4 = 3 := by
 rw [Int.tmod_eq_emod_of_nonneg h0]; omega
/-- A box of a token. -/
theorem tbox (W : World) (t : Tk) : ∃ wa, W.alloc (.cells #[.int .u8 (t.kind : Int), .string ⟨t.s.toArray⟩, .int .i64 (t.w : Int), .int .u64 ((t.n : Int) / 18446744073709551616), .int .u64 ((t.n : Int) % 18446744073709551616), .int .i64 (t.pl : Int)] 37) = wa ∧ Hid (Below W.heap.size W wa) ∧ Hid (wa.heap.size = W.heap.size + 1) ∧ wa.cell? ⟨W.heap.size, 1, none⟩ = some (.string ⟨t.s.toArray⟩) ∧ wa.cell? ⟨W.heap.size, 5, none⟩ = some (.int .i64 (t.pl : Int)) := by
 obtain ⟨wa, hwa, hsa, hba, hca, hfa⟩ := box1 W #[.int .u8 (t.kind : Int), .string ⟨t.s.toArray⟩, .int .i64 (t.w : Int), .int .u64 ((t.n : Int) / 18446744073709551616), .int .u64 ((t.n : Int) % 18446744073709551616), .int .i64 (t.pl : Int)] 37
 exact ⟨wa, hwa, hide hba, hide hsa, hca 1, hca 5⟩
theorem lexL_ne : ∀ (fu k : Nat) (l : List UInt8) (x : Int × Nat), lexL fu k l = .error x → x.1 ≠ 0
 | 0, _, _, _, h => by cases h
 | fu + 1, k, l, x, h => by
  unfold lexL at h
  simp only at h
  split at h
  ·cases h
  ·split at h
   ·rename_i e he
    injection h with h
    subst h
    exact oneR_err he
   ·split at h
    ·rename_i he
     injection h with h
     subst h
     exact lexL_ne fu _ _ _ he
    ·cases h
theorem lexR_ne {l : List UInt8} {x : Int × Nat} (h : lexR l = .error x) : x.1 ≠ 0 := by
 unfold lexR at h
 split at h
 ·injection h with h; subst h; decide
 ·exact lexL_ne _ _ _ _ h
theorem str_len (s : ByteArray) : s.data.toList.length = s.size := rfl
set_option maxRecDepth 100000 in
set_option maxHeartbeats 8000000 in
theorem tokenback_any (s : ByteArray) (b : Int) (w : World) (hb0 : 0 ≤ b) (hs : s.size ≤ maxLen) (hV : VarS w) :
  Calls Tryz.prog 4 #[.string s, .int .u8 b] w fun e w' => e = .returned (.bool true) ∧ Below w.heap.size w w' := by
 have hsl : s.size ≤ 9223372036854775807 := hs
 by_cases hmid : 1500 < s.size
 ·have h1 : (1500 : Int) < (s.size : Int) := by omega
  have hKn := hide (known03_any w hV)
  clear hmid
  go_enter Tryz.func4, Tryz.ntmps4
  go_wp2_with (go_at_call 5; refine hKn.out.mono ?_; rintro e wk ⟨rfl, hbk⟩)
  go_ret
  exact ⟨rfl, hbk⟩
 ·have h1 : ¬ (1500 : Int) < (s.size : Int) := by omega
  have hL1 := lex_any s w (by omega) hV
  unfold LexE at hL1
  have hKn := hide (fun (W : World) (hW : Below w.heap.size w W) => (known03_any W (hV.below hW (Nat.le_refl _))).mono fun e w' h => (⟨h.1, hW.trans (h.2.mono hW.size)⟩ : e = .returned (.bool true) ∧ Below w.heap.size w w'))
  cases hR : lexR s.data.toList with
  | error x =>
   obtain ⟨n, k⟩ := x
   rw [hR] at hL1
   simp only [faultV] at hL1
   have hne : n ≠ 0 := lexR_ne hR
   generalize (((placeR (s.data.toList.take k)).1 : Nat) : Int) = pl at hL1
   generalize (((placeR (s.data.toList.take k)).2 : Nat) : Int) = pc at hL1
   replace hL1 := hide hL1
   have hn0 : (n = 0) = False := by simp [hne]
   clear hR hmid hne
   go_enter Tryz.func4, Tryz.ntmps4
   go_upto_region 4 with (go_at_call 6; refine hL1.out.mono ?_; rintro e w1 ⟨rfl, hb1⟩)
   obtain ⟨w2, hw2, hs2, hb2, hc2, hf2⟩ := box1 w1 #[.int .i64 n, .int .i64 pl, .int .i64 pc] 28
   have g0 := hc2 0
   have g1 := hc2 1
   have g2 := hc2 2
   simp at g0 g1 g2
   replace hs2 := hide hs2
   have hB2 := hb1.trans (hb2.mono hb1.size)
   have hK2 := hide (hKn.out w2 hB2)
   clear hb1 hb2 hc2 hf2 hL1 hB2
   go_wp2_with (go_at_call 5; refine hK2.out.mono ?_; rintro e wk ⟨rfl, hbk⟩)
   go_ret
   exact ⟨rfl, hbk⟩
  | ok r =>
   have hlb := fun i => lex_back i (L := s.data.toList) (by rw [str_len]; omega) hR
   rw [hR] at hL1
   simp only at hL1
   replace hL1 := hide (show Calls Tryz.prog _ _ w fun e w' => (∃ A cap, e = .returned (.tuple #[.slice A r.length cap, .agg #[.int .i64 0, .int .i64 0, .int .i64 0]]) ∧ Sl 6 rTk w' w'.heap.size A r) ∧ Below w.heap.size w w' from hL1)
   obtain ⟨hr0, hrj, hrl, -, -⟩ := hlb 0
   have hrp : 0 < r.length := List.length_pos_iff.2 hr0
   have hlast := (hrj (r.length - 1) (by omega)).1 (by omega)
   replace hlb := hide hlb
   replace hrj := hide hrj
   clear hR hmid hr0
   go_enter Tryz.func4, Tryz.ntmps4
   go_upto_region 4 with (go_at_call 6; refine hL1.out.mono ?_; rintro e w1 ⟨⟨A, cap, rfl, hS⟩, hb1⟩)
   have hFb := hide (FBox.new w1 28)
   have hSa := hS.alloc sta_tk (Nat.le_refl _) (.cells #[.int .i64 0, .int .i64 0, .int .i64 0] 28)
   have hba := hb1.alloc hb1.size (.cells #[.int .i64 0, .int .i64 0, .int .i64 0] 28)
   have hsz : w1.heap.size < (w1.alloc (.cells #[.int .i64 0, .int .i64 0, .int .i64 0] 28)).heap.size := by simp
   generalize w1.alloc (.cells #[.int .i64 0, .int .i64 0, .int .i64 0] 28) = w2 at hFb hSa hba hsz ⊢
   have hSz : Sl 6 rTk w2 w2.heap.size A r := hSa.more sta_tk (by omega)
   obtain ⟨fl, f0, f1, f2, -, -, -⟩ := hFb.out
   obtain ⟨bA, oA, rfl, hbA, a0, -, -, -, -, -⟩ := hSz.tok (i := r.length - 1) (by omega)
   rw [hlast] at a0
   have hz2 := hba.size
   replace hba := hide hba
   replace hSz := hide hSz
   have hrz : (0 : Int) < (r.length : Int) := by omega
   have hr1 : ((r.length : Int) == 0) = false := by rw [beq_eq_false_iff_ne]; omega
   have hr2 : ((r.length : Int) - 1) = ((r.length - 1 : Nat) : Int) := by omega
   have hd1 : decide (0 < (r.length : Int)) = true := decide_eq_true hrz
   clear hS hSa hb1 hsz hL1 hFb hs
   have hrj' := hide (fun j (h : j < r.length) => (⟨(hrj.out j h).2.1, (hrj.out j h).2.2⟩ : r[j].pl ≤ s.size ∧ r[j].s <+: s.data.toList.drop r[j].pl))
   clear hrj
   go_upto_region 8 with fail
   go_wp2
   go_loopw [7, 9, 46] (fun v _ i wr => ∃ k : Nat, k ≤ r.length ∧ i = .int .i64 k ∧ Hid (SbS wr w2.heap.size v ((r.take k).map fun t => ⟨t.s.toArray⟩)) ∧ Hid (Below w2.heap.size w2 wr)) (fun _ _ i _ => r.length - (intOf i).toNat)
   case atStart => exact ⟨0, Nat.zero_le _, rfl, hide (SbS.nil_ _ _), hide (Below.refl _ _)⟩
   case round =>
    obtain ⟨k, hk, rfl, hT, hB⟩ := hrel
    have hzr := hB.out.size
    by_cases hlt : k < r.length
    ·have hkz : (k : Int) < (r.length : Int) := by omega
     have hSr : Sl 6 rTk wr w2.heap.size (some ⟨bA, oA, none⟩) r := hSz.out.keep sta_tk fun q hq => hB.out.cell hq
     obtain ⟨b', o', hA, hb', c0, c1, c2, c3, c4, c5⟩ := hSr.tok hlt
     obtain ⟨rfl, rfl⟩ : bA = b' ∧ oA = o' := by simpa using hA
     obtain ⟨hp1, hp2⟩ := hrj'.out k hlt
     have htk := hide (show ((r.take (k + 1)).map fun t => (⟨t.s.toArray⟩ : ByteArray)) = ((r.take k).map fun t => ⟨t.s.toArray⟩) ++ [⟨r[k].s.toArray⟩] from by rw [List.take_succ_eq_append_getElem hlt, List.map_append]; rfl)
     have hlk : ((r.take k).map fun t => (⟨t.s.toArray⟩ : ByteArray)).length = k := by rw [List.length_map, List.length_take]; omega
     generalize r[k] = t at c0 c1 c2 c3 c4 c5 hp1 hp2 htk
     generalize ((r.take k).map fun t => (⟨t.s.toArray⟩ : ByteArray)) = acc at hT htk hlk
     obtain ⟨A2, cap2, rfl⟩ := hT.out.form
     have hbig : acc.length ≤ bigI := by unfold bigI; omega
     rw [hlk] at hT ⊢
     have hpz : (t.pl : Int) ≤ (s.size : Int) := by omega
     have hp0 : ¬ (t.pl : Int) < 0 := by omega
     have hd2 : decide ((t.pl : Int) < 0) = false := decide_eq_false hp0
     have hd3 : decide ((s.size : Int) < (t.pl : Int)) = false := decide_eq_false (by omega)
     have hd4 : decide (s.size < t.pl) = false := decide_eq_false (by omega)
     have hd5 : decide (t.pl ≤ s.size) = true := decide_eq_true hp1
     have hP : ∀ W, Calls Tryz.prog 13 #[.string (s.extract t.pl s.size), .string ⟨t.s.toArray⟩] W fun e w' => e = .returned (.bool true) ∧ W = w' := fun W => (Tryz.strings_HasPrefix (s.extract t.pl s.size) ⟨t.s.toArray⟩ W).mono fun e w' h => ⟨h.1.trans (by
      rw [ext_drop]
      rw [show Lib.hasPrefix (s.data.toList.drop t.pl) (⟨t.s.toArray⟩ : ByteArray).data.toList = true from List.isPrefixOf_iff_prefix.2 hp2]), h.2.symm⟩
     replace hP := hide hP
     obtain ⟨wa, hwa, hba2, hsa2, x1, x5⟩ := tbox wr t
     clear hp2
     go_upto_region 12 with fail
     go_wp2_with fail
     go_quiet ((go_at_call 13; with_reducible exact quiet_same (hP.out _)))
     have hBq := hide (show Below w2.heap.size w2 (wa.drewN nq) from below_drewN (hB.out.trans (hba2.out.mono hzr)) nq)
     have hTq : SbS (wa.drewN nq) w2.heap.size (.slice A2 acc.length cap2) acc := (show SbS wa w2.heap.size (.slice A2 acc.length cap2) acc from (hlk ▸ hT.out).below hba2.out (Nat.le_refl _)).below (below_drewN (Below.refl wa.heap.size wa) nq) (Nat.le_refl _)
     have y1 : (wa.drewN nq).cell? ⟨wr.heap.size, 1, none⟩ = some (.string ⟨t.s.toArray⟩) := x1
     have hzq : w2.heap.size ≤ (wa.drewN nq).heap.size := by have := hsa2.out; show w2.heap.size ≤ wa.heap.size; omega
     generalize wa.drewN nq = wB at hBq hTq y1 hzq ⊢
     obtain ⟨v', w7, hrun, hT7, hb7⟩ := append_sb ⟨t.s.toArray⟩ hTq hzq hbig
     rw [hlk] at hrun
     have hT8 := hide (htk.out.symm ▸ hT7)
     have hB8 := hide (hBq.out.trans hb7)
     clear hT hTq hT7 hb7 htk hB hBq x1 x5 hP hwa
     go_wp2
     go_roundw
     case rel => exact ⟨k + 1, by omega, by go_num, hT8, hB8⟩
     case measure => simp [intOf]; omega
    ·have hke : k = r.length := by omega
     subst hke
     rw [List.take_length] at hT
     obtain ⟨g, cp, rfl, hgl, hcp, hcells⟩ := hT.out.at_ (by rw [List.length_map]; exact hrp)
     have hlm : (r.map fun t => (⟨t.s.toArray⟩ : ByteArray)).length = r.length := List.length_map _
     have hmm : (r.map fun t => (⟨t.s.toArray⟩ : ByteArray)).map (·.data.toList) = r.map (·.s) := by rw [List.map_map]; rfl
     have hJ := fun i (sep : ByteArray) (he : sep.data.toList = sepB i) => (Tryz.strings_Join g 0 cp (r.map fun t => (⟨t.s.toArray⟩ : ByteArray)) sep wr hcells hgl (by rw [hlm]; omega) hcp (by rw [hmm, he]; have := (hlb.out i).2.2.2.1; omega)).mono fun e w' h => (⟨by rw [← he, ← hmm]; exact h.1, hB.out.trans (h.2.mono hzr)⟩ : e = .returned (.string ⟨(Lib.join (r.map (·.s)) (sepB i)).toArray⟩) ∧ Below w2.heap.size w2 w')
     rw [hlm] at hJ ⊢
     replace hJ := hide hJ
     clear hcells
     go_upto_region 16 with fail
     go_cut [10] (fun v wx => ∃ i : Nat, v = .string ⟨(Lib.join (r.map (·.s)) (sepB i)).toArray⟩ ∧ Hid (Below w2.heap.size w2 wx))
     case first =>
      have ix0 : ∀ W, (Instr.index 41 (.agg #[.string ⟨#[32]⟩, .string ⟨#[10]⟩, .string ⟨#[9, 47, 47, 32, 99, 10]⟩, .string ⟨#[32, 47, 47, 32, 10, 10]⟩]) (.int .u8 0)).run Tryz.prog W = .ok (.string ⟨#[32]⟩) W := fun _ => by kernel_rfl
      have ix1 : ∀ W, (Instr.index 41 (.agg #[.string ⟨#[32]⟩, .string ⟨#[10]⟩, .string ⟨#[9, 47, 47, 32, 99, 10]⟩, .string ⟨#[32, 47, 47, 32, 10, 10]⟩]) (.int .u8 1)).run Tryz.prog W = .ok (.string ⟨#[10]⟩) W := fun _ => by kernel_rfl
      have ix2 : ∀ W, (Instr.index 41 (.agg #[.string ⟨#[32]⟩, .string ⟨#[10]⟩, .string ⟨#[9, 47, 47, 32, 99, 10]⟩, .string ⟨#[32, 47, 47, 32, 10, 10]⟩]) (.int .u8 2)).run Tryz.prog W = .ok (.string ⟨#[9, 47, 47, 32, 99, 10]⟩) W := fun _ => by kernel_rfl
      have ix3 : ∀ W, (Instr.index 41 (.agg #[.string ⟨#[32]⟩, .string ⟨#[10]⟩, .string ⟨#[9, 47, 47, 32, 99, 10]⟩, .string ⟨#[32, 47, 47, 32, 10, 10]⟩]) (.int .u8 3)).run Tryz.prog W = .ok (.string ⟨#[32, 47, 47, 32, 10, 10]⟩) W := fun _ => by kernel_rfl
      rcases modn b hb0 with hm | hm | hm | hm
      ·go_wp2_with (go_at_call 14; refine (hJ.out 0 _ rfl).mono ?_; rintro e w9 ⟨rfl, hb9⟩)
       go_meet
       exact ⟨0, rfl, hide hb9⟩
      ·go_wp2_with (go_at_call 14; refine (hJ.out 1 _ rfl).mono ?_; rintro e w9 ⟨rfl, hb9⟩)
       go_meet
       exact ⟨1, rfl, hide hb9⟩
      ·go_wp2_with (go_at_call 14; refine (hJ.out 2 _ rfl).mono ?_; rintro e w9 ⟨rfl, hb9⟩)
       go_meet
       exact ⟨2, rfl, hide hb9⟩
      ·go_wp2_with (go_at_call 14; refine (hJ.out 3 _ rfl).mono ?_; rintro e w9 ⟨rfl, hb9⟩)
       go_meet
       exact ⟨3, rfl, hide hb9⟩
     case rest =>
      obtain ⟨i, rfl, hBc⟩ := hcut
      obtain ⟨w10, rfl⟩ : ∃ w10 : World, w10 = wc := ⟨_, rfl⟩
      obtain ⟨-, -, -, hjl, r', hr', hal⟩ := hlb.out i
      have hBw := hba.out.trans (hBc.out.mono hz2)
      have hL2 := lex_any ⟨(Lib.join (r.map (·.s)) (sepB i)).toArray⟩ w10 (by show (Lib.join (r.map (·.s)) (sepB i)).toArray.size < _; simp; omega) (hV.below hBw (Nat.le_refl _))
      unfold LexE at hL2
      rw [show (⟨(Lib.join (r.map (·.s)) (sepB i)).toArray⟩ : ByteArray).data.toList = Lib.join (r.map (·.s)) (sepB i) from rfl, hr'] at hL2
      simp only at hL2
      replace hL2 := hide (show Calls Tryz.prog _ _ w10 fun e w' => (∃ A cap, e = .returned (.tuple #[.slice A r'.length cap, .agg #[.int .i64 0, .int .i64 0, .int .i64 0]]) ∧ Sl 6 rTk w' w'.heap.size A r') ∧ Below w10.heap.size w10 w' from hL2)
      generalize (⟨(Lib.join (r.map (·.s)) (sepB i)).toArray⟩ : ByteArray) = all_ at hL2 ⊢
      have hz10 := hBc.out.size
      replace hBw := hide hBw
      go_upto_region 18 with (go_at_call 6; refine hL2.out.mono ?_; rintro e w11 ⟨⟨A3, cap3, rfl, hS3⟩, hb11⟩)
      have hFb := hide (FBox.new w11 28)
      have hSa := hS3.alloc sta_tk (Nat.le_refl _) (.cells #[.int .i64 0, .int .i64 0, .int .i64 0] 28)
      have hba3 := hb11.alloc hb11.size (.cells #[.int .i64 0, .int .i64 0, .int .i64 0] 28)
      have hsz3 : w11.heap.size < (w11.alloc (.cells #[.int .i64 0, .int .i64 0, .int .i64 0] 28)).heap.size := by simp
      generalize w11.alloc (.cells #[.int .i64 0, .int .i64 0, .int .i64 0] 28) = w12 at hFb hSa hba3 hsz3 ⊢
      have hz12 := hba3.size
      have hBt := hide (hBw.out.trans (hba3.mono (by omega)))
      have hSx : Sl 6 rTk w12 w12.heap.size (some ⟨bA, oA, none⟩) r := (hSz.out.keep sta_tk fun q hq => ((hBc.out.trans (hba3.mono hz10)).cell hq)).more sta_tk (by omega)
      have hSy : Sl 6 rTk w12 w12.heap.size A3 r' := hSa.more sta_tk (by omega)
      have hSm := hide (same_f r r' (some ⟨bA, oA, none⟩) A3 cap cap3 w12 hSx hSy hal.1 fun j h h' => ⟨(hal.2 j h h').1, (hal.2 j h h').2.1, (hal.2 j h h').2.2.1, (hal.2 j h h').2.2.2, fun e => by cases e⟩)
      obtain ⟨fl3, g0, g1, g2, -, -, -⟩ := hFb.out
      have hKz := hide (fun W (hW : Below w12.heap.size w12 W) => hKn.out W (hBt.out.trans (hW.mono hBt.out.size)))
      clear hS3 hSa hb11 hba3 hsz3 hL2 hFb hSx hSy hal hr' hjl hJ hlm hmm hcp hT hB hlb hrj'
      go_wp2_with (first
       | (go_at_call 8; refine hSm.out.mono ?_; rintro e w13 ⟨rfl, hb13⟩)
       | (go_at_call 5; refine (hKz.out _ hb13).mono ?_; rintro e wk ⟨rfl, hbk⟩))
      go_ret
      exact ⟨rfl, hbk⟩
end Go.Proofs.YtmapiiclmmmpbaaGreatDoor
/-! The witness world of the rows of layer 3: what the listed variables hold. -/
namespace Go.Proofs.YtmapiiclmmmpbaaGreatDoor
open Go.ChangeShapes Go.WideShapes Go.ChangeAt Go.RowKit Go.Lib Go.Shelf

/-- unicode.CaseRanges alone: a variable that holds a slice of the table's cells. -/
theorem laidIn_case {P : Program} {ρ : Ren} (L : Lays.n274 P ρ) (t206 : P.underlying (ρ.t 206) = some (.array 3 (ρ.t 21))) (X : CaseExtra P ρ) {w : World}
  (R : Nat) (t : TypeId) (hgR : ρ.g 13 ≠ R)
  (hvar : w.heap[ρ.g 13]? = some (.cells #[.slice (some ⟨R, 0, none⟩) caseA.size caseA.size] (ρ.t 162) (0, 0)))
  (hblk : w.heap[R]? = some (.cells caseCells5 t (0, 0))) : LaidIn P w [("unicode.CaseRanges", caseData)] [ρ.g 13, R] := by
 have hT := caseTab_of_block hblk
 have hread := case_slice_reads L t206 X hT caseA_wf (by rw [caseA_size]; unfold maxLen; omega) 0
 rw [case_rows_data] at hread
 have hv : w.var? P "unicode.CaseRanges" = some #[.slice (some ⟨R, 0, none⟩) caseA.size caseA.size] := by simp [World.var?, X.n13, hvar]
 refine LaidIn.one [ρ.g 13, R] X.n13 X.y13 hv hread ?_ ?_ ?_
 ·refine List.nodup_append.2 ⟨row_nodup _ _, row_nodup _ _, ?_⟩
  intro a ha b hb e
  obtain ⟨i, _, rfl⟩ := MemPlace.mem_row.1 ha
  obtain ⟨j, _, rfl⟩ := MemPlace.mem_row.1 hb
  simp at e
  exact hgR e.1
 ·intro b off hp
  rcases List.mem_append.1 hp with hp | hp
  ·obtain ⟨i, hi, e⟩ := MemPlace.mem_row.1 hp
   cases e
   refine ⟨⟨_, _, hvar⟩, fun u v hc => ?_⟩
   obtain rfl : i = 0 := by simpa using hi
   rw [Lib.cell_of_heap hvar] at hc
   simp at hc
  ·obtain ⟨i, hi, e⟩ := MemPlace.mem_row.1 hp
   cases e
   refine ⟨⟨_, _, hblk⟩, fun u v hc => ?_⟩
   obtain ⟨c0, c1, c2, c3, c4⟩ := hT (i / 5) (by omega)
   have hi5 : 0 + i = 0 + i / 5 * 5 + i % 5 := by omega
   simp only at hc
   rw [hi5] at hc
   have hm : i % 5 < 5 := Nat.mod_lt _ (by omega)
   match hk : i % 5, hm with
   | 0, _ => rw [hk, Nat.add_zero, c0] at hc; cases hc
   | 1, _ => rw [hk, c1] at hc; cases hc
   | 2, _ => rw [hk, c2] at hc; cases hc
   | 3, _ => rw [hk, c3] at hc; cases hc
   | 4, _ => rw [hk, c4] at hc; cases hc
 ·intro x hx
  rcases List.mem_append.1 hx with hp | hp
  ·obtain ⟨i, _, rfl⟩ := MemPlace.mem_row.1 hp
   exact List.mem_cons_self
  ·obtain ⟨i, _, rfl⟩ := MemPlace.mem_row.1 hp
   exact List.mem_cons_of_mem _ List.mem_cons_self

/-- The cells of a datum of numbers. -/
def lwLit : DataW Unit → Value
 | .lit (.int k z) => .int k z
 | _ => .nilIface
def lwAgg : DataW Unit → List Value
 | .agg l => l.map lwLit
 | d => [lwLit d]
def lwFlat : DataW Unit → List Value
 | .agg l => l.flatMap lwAgg
 | _ => []
def lwErr : DataW Unit → ByteArray
 | .iface _ (.ptr (.agg [.lit (.string s)])) => ⟨s.toArray⟩
 | _ => ⟨#[]⟩
/-- THE WITNESS: the settled world with three blocks more, the eight variables holding what their initialisers lay. -/
noncomputable def laidWorld (os : Os) : World :=
 let N := (World.settled Tryz.prog os).heap.size
 let w0 := World.holding Tryz.prog os ⟨#[.cells #[.string (lwErr Rows.laid_strconv_ErrRange)] 139, .cells #[.string (lwErr Rows.laid_strconv_ErrSyntax)] 139, .cells caseCells5 161], #[], []⟩
 let put (h : Array Obj) (g : Nat) (cs : Array Value) : Array Obj := h.modify g fun
  | .cells _ t frozen => .cells cs t frozen
  | o => o
 let h1 := put w0.heap 7 (lwFlat Rows.laid_math_bits_deBruijn32tab).toArray
 let h2 := put h1 8 (lwFlat Rows.laid_math_bits_deBruijn64tab).toArray
 let h3 := put h2 6 (lwFlat Rows.laid_internal_strconv_uint64pow10).toArray
 let h4 := put h3 5 (lwFlat Rows.laid_unicode_utf8_acceptRanges).toArray
 let h5 := put h4 2 #[.iface 137 (.pointer (some ⟨N, 0, none⟩))]
 let h6 := put h5 1 #[.iface 137 (.pointer (some ⟨N + 1, 0, none⟩))]
 let h7 := put h6 3 #[.slice (some ⟨N + 2, 0, none⟩) 336 336]
 let h8 := put h7 4 (Lib.firstTab.map fun z => Value.int .u8 z).toArray
 { w0 with heap := h8 }
noncomputable abbrev wN : Nat := (World.settled Tryz.prog default).heap.size
set_option maxRecDepth 100000 in
theorem lw_p1 (os : Os) (args : Array Value) : LaidIn Tryz.prog ((laidWorld os).forCall (fun _ _ => 0) ⟨#[], args, []⟩).memory (Rows.tokenLexesUptoRow.laid.take 6) [7, 8, 6, 5, 2, wN, 1, wN + 1] :=
 LaidIn.of_run [7, 8, 6, 5, 2, wN, 1, wN + 1] 8 (by kernel_rfl) (by kernel_rfl) (by kernel_rfl) (by kernel_rfl)
set_option maxRecDepth 100000 in
theorem lw_p2 (os : Os) (args : Array Value) : LaidIn Tryz.prog ((laidWorld os).forCall (fun _ _ => 0) ⟨#[], args, []⟩).memory [("unicode.CaseRanges", Rows.laid_unicode_CaseRanges)] [3, wN + 2] := by
 have e : Rows.laid_unicode_CaseRanges = caseData := Pinned.caseRanges_eq
 rw [e]
 exact laidIn_case (ρ := Tryz.lays159_ren) { Tryz.lays159 with } Tryz.lays159.t206 ⟨by kernel_rfl, by kernel_rfl, by kernel_rfl, by kernel_rfl, by kernel_rfl, by kernel_rfl⟩ (wN + 2) 161 (of_decide_eq_true (by kernel_rfl)) (by kernel_rfl) (by kernel_rfl)
set_option maxRecDepth 100000 in
theorem lw_p3 (os : Os) (args : Array Value) : LaidIn Tryz.prog ((laidWorld os).forCall (fun _ _ => 0) ⟨#[], args, []⟩).memory [("unicode/utf8.first", Rows.laid_unicode_utf8_first)] [4] := by
 have e : Rows.laid_unicode_utf8_first = firstData := Pinned.utf8First_eq
 rw [e]
 exact LaidIn.of_run [4] 8 (by kernel_rfl) (by kernel_rfl) (by kernel_rfl) (by kernel_rfl)
theorem lw_met (os : Os) (args : Array Value) : laidMet Tryz.prog Rows.tokenLexesUptoRow.laid ((laidWorld os).forCall (fun _ _ => 0) ⟨#[], args, []⟩).memory :=
 (((lw_p1 os args).append (lw_p2 os args) (by kernel_rfl)).append (lw_p3 os args) (by kernel_rfl)).met
end Go.Proofs.YtmapiiclmmmpbaaGreatDoor

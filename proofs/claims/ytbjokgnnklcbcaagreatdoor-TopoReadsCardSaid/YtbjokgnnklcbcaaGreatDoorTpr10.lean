import Derived.Test.YtbjokgnnklcbcaaGreatDoorTpr06
import Derived.Test.YtbjokgnnklcbcaaGreatDoorTpr09
import Derived.Test.YtbjokgnnklcbcaaGreatDoorTpr01
import Derived.Lib.LastIndexByte
set_option linter.all false
/-! Layer 3: a word as a number. -/
namespace Go.Proofs.YtbjokgnnklcbcaaGreatDoor
open Go.RowKit
/-- What a call reads of the variables: MaxLen, strconv's two errors. -/
structure VarS (w : World) : Prop where
 m : ∃ m, w.cell? ⟨0, 0, none⟩ = some (.int .i64 m)
 s : ∃ ev, w.cell? ⟨2, 0, none⟩ = some ev ∧ (ev = .nilIface ∨ ∃ te pe, ev = .iface te pe)
 r : ∃ ev, w.cell? ⟨3, 0, none⟩ = some ev ∧ (ev = .nilIface ∨ ∃ te pe, ev = .iface te pe)
theorem cell_lt {w : World} {b o : Nat} {v : Value} (h : w.cell? ⟨b, o, none⟩ = some v) : b < w.heap.size := by
 unfold World.cell? at h
 by_cases hb : b < w.heap.size
 ·exact hb
 ·rw [Array.getElem?_eq_none (by show w.heap.size ≤ b; omega)] at h
  simp at h
theorem VarS.below {w w' : World} {B : Nat} (h : VarS w) (hb : Below B w w') (hB : w.heap.size ≤ B) : VarS w' := by
 obtain ⟨⟨m, hm⟩, ⟨e1, h1, k1⟩, ⟨e2, h2, k2⟩⟩ := h
 exact ⟨⟨m, (hb.cell (p := ⟨0, 0, none⟩) (Nat.lt_of_lt_of_le (cell_lt hm) hB)).trans hm⟩, ⟨e1, (hb.cell (p := ⟨2, 0, none⟩) (Nat.lt_of_lt_of_le (cell_lt h1) hB)).trans h1, k1⟩, ⟨e2, (hb.cell (p := ⟨3, 0, none⟩) (Nat.lt_of_lt_of_le (cell_lt h2) hB)).trans h2, k2⟩⟩
theorem pu_any (s : ByteArray) (w : World) (hs : s.size ≤ 2000000) (hV : VarS w) :
  Calls Tryz.prog 90 #[.string s, .int .i64 10, .int .i64 16] w fun e w' => (∃ (n : Nat) (er : Value), e = .returned (.tuple #[.int .u64 n, er]) ∧ ((Lib.parseUintB 16 s.data.toList = .ok n ∧ er = .nilIface) ∨ ((∀ u, Lib.parseUintB 16 s.data.toList ≠ .ok u) ∧ ∃ (T : TypeId) (N : Nat), er = .iface T (.pointer (some ⟨N, 0, none⟩))))) ∧ Below w.heap.size w w' := by
 obtain ⟨-, ⟨e1, h1, k1⟩, ⟨e2, h2, k2⟩⟩ := hV
 rcases h : Lib.parseUintB 16 s.data.toList with u | _ | _
 ·refine (Tryz.strconv_ParseUint_10_at16_ok s (by omega) u h w).mono ?_
  rintro e w' ⟨rfl, hw⟩
  refine ⟨⟨u, .nilIface, rfl, .inl ⟨rfl, rfl⟩⟩, ?_⟩
  rcases hw with rfl | rfl
  ·exact Below.refl _ _
  ·exact Lib.bytesWorld_below _ _ _
 ·refine (Tryz.strconv_ParseUint_10_at16_syntax s (by omega) h e1 w h1 k1).mono ?_
  rintro e w' ⟨N, rfl, -, -, hb⟩
  exact ⟨⟨0, _, rfl, .inr ⟨by simp, _, N, rfl⟩⟩, hb⟩
 ·refine (Tryz.strconv_ParseUint_10_at16_range s (by omega) h e2 w h2 k2).mono ?_
  rintro e w' ⟨N, rfl, -, -, hb⟩
  exact ⟨⟨65535, _, rfl, .inr ⟨by simp, _, N, rfl⟩⟩, hb⟩
/-- How a number's call ends. -/
def numE : Except Int (Nat × Nat) → Ending
 | .error n => perr n
 | .ok x => .returned (.tuple #[.int .i64 (x.1 : Int), .agg #[.int .u64 ((x.2 / 18446744073709551616 : Nat) : Int), .int .u64 ((x.2 % 18446744073709551616 : Nat) : Int)]])
theorem fitN_nat (k n : Nat) : fitN (k : Int) ((n / 18446744073709551616 : Nat) : Int) ((n % 18446744073709551616 : Nat) : Int) = decide (n < 2 ^ k) := by
 unfold fitN fitsB numV
 simp only
 rw [decide_eq_decide, Int.toNat_natCast]
 have e : ((n / 18446744073709551616 : Nat) : Int) * 18446744073709551616 + ((n % 18446744073709551616 : Nat) : Int) = (n : Int) := by omega
 have e2 : ((2 ^ k : Nat) : Int) = (2 : Int) ^ k := by simp
 rw [← e2]
 omega
theorem parseR_err {l : List UInt8} {e : Int} (h : parseR l = .error e) : e = 4 ∨ e = 5 := by
 unfold parseR at h
 simp only at h
 repeat' split at h
 all_goals first
  | (injection h with h; omega)
  | cases h
theorem parseR_lt {l : List UInt8} {n : Nat} (h : parseR l = .ok n) : n < two128 := by
 unfold parseR at h
 simp only at h
 repeat' split at h
 all_goals first
  | (injection h with h; rw [← h]; exact accV_lt _ _)
  | cases h
theorem take_size (s : ByteArray) (n : Nat) : (⟨(s.data.toList.take n).toArray⟩ : ByteArray).size ≤ s.size := by
 rw [Lib.size_eq, Lib.size_eq]
 simp
 omega
theorem drop_size (s : ByteArray) (n : Nat) : (⟨(s.data.toList.drop n).toArray⟩ : ByteArray).size ≤ s.size := by
 rw [Lib.size_eq, Lib.size_eq]
 simp
attribute [local go_sem] run_panic_iface
theorem numR_thin {l : List UInt8} (h : Lib.indexByte l 119 = -1) : numR l = valR 0 false l := by
 unfold numR
 rw [h]
 exact if_neg (by decide)
theorem numR_wide {l : List UInt8} {i : Nat} (h : Lib.indexByte l 119 = (i : Int)) : numR l = if (l.take i).all digB && decide ((l.take i).length ≤ 3) then (if decV (l.take i) < 1 ∨ 128 < decV (l.take i) then .error 10 else valR (decV (l.take i)) true (l.drop (i + 1))) else .error 4 := by
 unfold numR
 rw [h]
 exact if_pos (by omega)
attribute [local go_sem] run_panic_iface
set_option maxRecDepth 100000 in
set_option maxHeartbeats 8000000 in
theorem number_thin (s : ByteArray) (w : World) (hs : s.size ≤ 2000000) (hascii : ∀ c ∈ s.data.toList, c.toNat < 128) (hV : VarS w) (hidx : Lib.indexByte s.data.toList 119 = -1) :
  Calls Tryz.prog 71 #[.string s] w fun e w' => e = numE (numR s.data.toList) ∧ Below w.heap.size w w' := by
 obtain ⟨wa, hwa, hsa, hba, hca, hfa⟩ := box1 w #[.int .u64 0, .int .u64 0] 62
 have hq := hide (show NBox wa w.heap.size 0 0 from ⟨by omega, hca 0, hca 1, hfa 0, hfa 1⟩)
 have hVa := hide (hV.below hba (Nat.le_refl _))
 have hla : w.heap.size < wa.heap.size := by omega
 obtain ⟨m, hm⟩ := hVa.out.m
 have hCt := Tryz.strings_Cut s ⟨#[119]⟩ m wa (by omega) hm
 rw [show (⟨#[119]⟩ : ByteArray).data.toList = [119] from rfl, cut_w, hidx, if_neg (by decide)] at hCt
 have hfin := hide (fun W (hW : Below wa.heap.size wa W) => hba.trans (hW.mono hba.size))
 rw [numR_thin hidx]
 replace hsa := hide hsa
 clear hca hfa hV hba hm hidx
 replace hCt := hide (hCt.mono fun e w' h => (⟨h.1, by obtain ⟨n, hn⟩ := h.2; rw [hn]; exact below_drewN (Below.refl _ _) n⟩ : _ ∧ Below wa.heap.size wa w'))
 have hpz := fun W => lparse_any s W hs hascii
 obtain ⟨R, hRe⟩ : ∃ R, R = parseR (s).data.toList := ⟨_, rfl⟩
 unfold valR
 rw [← hRe]
 rw [← hRe] at hpz
 cases R with
 | error n =>
  have hn45 := parseR_err hRe.symm
  have hn0 : ¬ n = 0 := by omega
  have hn0b : (n == 0) = false := beq_eq_false_iff_ne.2 hn0
  have hn0c : (n != 0) = true := bne_iff_ne.2 hn0
  replace hRe := hide hRe
  replace hpz := hide (fun W => show Calls Tryz.prog 91 #[.string (s)] W fun e w' => e = .returned (.tuple #[.agg #[.int .u64 0, .int .u64 0], .int .i64 n]) ∧ Below W.heap.size W w' from hpz W)
  clear hn45
  go_enter Tryz.func71, Tryz.ntmps71
  go_wp2_with (first | (go_at_call 89; refine hCt.out.mono ?_; rintro e w1 ⟨rfl, hb1⟩) | (go_at_call 90; refine hPu.out.mono ?_; rintro e w1 ⟨rfl, hb1⟩) | (go_at_call 91; refine (hpz.out _).mono ?_; rintro e w2 ⟨rfl, hb2⟩))
  exact ⟨rfl, rfl, hfin.out _ ((hb1.trans (hb2.mono hb1.size)).alloc (Nat.le_trans hb1.size hb2.size) _)⟩
 | ok n =>
  have hnl := parseR_lt hRe.symm
  replace hRe := hide hRe
  have hF := fitN_nat (0) n
  obtain ⟨nh, hnh⟩ : ∃ nh, nh = ((n / 18446744073709551616 : Nat) : Int) := ⟨_, rfl⟩
  obtain ⟨nl, hnl2⟩ : ∃ nl, nl = ((n % 18446744073709551616 : Nat) : Int) := ⟨_, rfl⟩
  have u1 : u64 nh := ⟨by omega, by unfold two128 at hnl; omega⟩
  have u2 : u64 nl := ⟨by omega, by omega⟩
  rw [← hnh, ← hnl2] at hF
  replace hpz := hide (fun W => show Calls Tryz.prog 91 #[.string (s)] W fun e w' => e = .returned (.tuple #[.agg #[.int .u64 nh, .int .u64 nl], .int .i64 0]) ∧ Below W.heap.size W w' from by rw [hnh, hnl2]; exact hpz W)
  have hFt := hide (fun W => fits_all nh nl ((0 : Nat) : Int) W ⟨u1, u2⟩)
  rw [hF] at hFt
  have hend := hide (show numE (.ok (0, n)) = .returned (.tuple #[.int .i64 ((0 : Nat) : Int), .agg #[.int .u64 nh, .int .u64 nl]]) from by rw [hnh, hnl2]; rfl)
  clear u1 u2 hnh hnl2 hF hnl
  generalize decide (n < 2 ^ (0)) = ft at hFt
  clear hFt
  rw [show valX 0 false (.ok n) = .ok (0, n) from rfl, hend.out]
  go_enter Tryz.func71, Tryz.ntmps71
  go_upto_region 17 with (first | (go_at_call 89; refine hCt.out.mono ?_; rintro e w1 ⟨rfl, hb1⟩) | (go_at_call 91; refine (hpz.out _).mono ?_; rintro e w2 ⟨rfl, hb2⟩; obtain ⟨w3, hw3, hs3, hb3, hc3, hf3⟩ := box1 w2 #[.int .u64 nh, .int .u64 nl] 62; have x0 := hc3 0; have x1 := hc3 1; replace hs3 := hide hs3))
  have hb12 := hb1.trans (hb2.mono hb1.size)
  have hb13 := hb12.trans (hb3.mono hb12.size)
  have hs3' := hs3.out
  have hl3 : w2.heap.size < w3.heap.size := by omega
  obtain ⟨ql, q0, q1, e0, e1⟩ := hq.out.below hb13 hla
  simp at x0 x1
  have hfx := hide (hfin.out _ hb13)
  clear hs3' hb1 hb2 hb3 hb12 hb13 hc3 hf3
  go_region
  all_goals
   go_wp2
   exact bodyPost_ret (v := .tuple #[.int .i64 _, .agg #[.int .u64 nh, .int .u64 nl]]) (by simp [results, Tryz.results71, go_sem, q0, q1, ql]) rfl ⟨rfl, (by first | exact (below_set2 hfx.out (Nat.le_refl _) _ _).drew | exact below_set2 hfx.out (Nat.le_refl _) _ _)⟩
set_option maxRecDepth 100000 in
set_option maxHeartbeats 8000000 in
theorem number_wide (s : ByteArray) (w : World) (hs : s.size ≤ 2000000) (hascii : ∀ c ∈ s.data.toList, c.toNat < 128) (hV : VarS w) (i : Nat) (hidx : Lib.indexByte s.data.toList 119 = (i : Int)) (hi : s.data.toList.take i ≠ []) :
  Calls Tryz.prog 71 #[.string s] w fun e w' => e = numE (numR s.data.toList) ∧ Below w.heap.size w w' := by
 obtain ⟨wa, hwa, hsa, hba, hca, hfa⟩ := box1 w #[.int .u64 0, .int .u64 0] 62
 have hq := hide (show NBox wa w.heap.size 0 0 from ⟨by omega, hca 0, hca 1, hfa 0, hfa 1⟩)
 have hVa := hide (hV.below hba (Nat.le_refl _))
 have hla : w.heap.size < wa.heap.size := by omega
 obtain ⟨m, hm⟩ := hVa.out.m
 have hCt := Tryz.strings_Cut s ⟨#[119]⟩ m wa (by omega) hm
 rw [show (⟨#[119]⟩ : ByteArray).data.toList = [119] from rfl, cut_w, hidx, if_pos (by omega)] at hCt
 have hfin := hide (fun W (hW : Below wa.heap.size wa W) => hba.trans (hW.mono hba.size))
 rw [numR_wide hidx]
 replace hsa := hide hsa
 clear hca hfa hV hba hm hidx
 obtain ⟨aB, haB⟩ : ∃ aB : ByteArray, aB = ⟨(s.data.toList.take i).toArray⟩ := ⟨_, rfl⟩
 obtain ⟨bB, hbB⟩ : ∃ bB : ByteArray, bB = ⟨(s.data.toList.drop (i + 1)).toArray⟩ := ⟨_, rfl⟩
 have hCt' : Calls Tryz.prog 89 #[.string s, .string ⟨#[119]⟩] wa fun e w' => e = .returned (.tuple #[.string aB, .string bB, .bool true]) ∧ Below wa.heap.size wa w' := by
  rw [haB, hbB]
  exact hCt.mono fun e w' h => ⟨h.1, by obtain ⟨n, hn⟩ := h.2; rw [hn]; exact below_drewN (Below.refl _ _) n⟩
 have hbs : bB.size ≤ 2000000 := by rw [hbB]; exact Nat.le_trans (drop_size s _) hs
 have has : aB.size ≤ 2000000 := by rw [haB]; exact Nat.le_trans (take_size s _) hs
 have hbd : bB.data.toList = s.data.toList.drop (i + 1) := by rw [hbB]
 have had : aB.data.toList = s.data.toList.take i := by rw [haB]
 have hba : ∀ c ∈ bB.data.toList, c.toNat < 128 := fun c hc => hascii c (by rw [hbd] at hc; exact List.mem_of_mem_drop hc)
 have hpz := fun W => lparse_any bB W hbs hba
 have hP := fun W hW => pu_any aB W has (hVa.out.below (show Below wa.heap.size wa W from hW) (Nat.le_refl _))
 rw [← had] at hi ⊢
 rw [← hbd]
 rw [Lib.size_eq] at has
 have hsz := Lib.size_eq aB
 have hal : aB.size ≤ 9223372036854775807 := by omega
 clear hCt haB hbB hbs hbd had hba hascii hs
 replace hCt := hide hCt'
 clear hCt'
 by_cases hlen : aB.data.toList.length ≤ 3
 ·have hlz : ¬ (3 : Int) < (aB.size : Int) := by omega
  clear hsz has
  cases hall : aB.data.toList.all digB with
  | false =>
   have hb := parseB_bad hall hlen
   have hPu := hide (fun W hW => (hP W hW).mono fun e w' h => (⟨by
    obtain ⟨⟨n, er, he, h1⟩, -⟩ := h
    rcases h1 with ⟨h1, -⟩ | ⟨-, T, N, rfl⟩
    ·exact absurd h1 (hb n)
    ·exact ⟨n, T, N, he⟩, h.2⟩ : (∃ (n : Nat) (T : TypeId) (N : Nat), e = .returned (.tuple #[.int .u64 n, .iface T (.pointer (some ⟨N, 0, none⟩))])) ∧ Below W.heap.size W w'))
   rw [if_neg (by simp)]
   clear hb hP hi hlen hpz
   go_enter Tryz.func71, Tryz.ntmps71
   go_wp2_with (first | (go_at_call 89; refine hCt.out.mono ?_; rintro e w0 ⟨rfl, hb0⟩) | (go_at_call 90; refine (hPu.out _ hb0).mono ?_; rintro e w1 ⟨⟨un, T, N, rfl⟩, hb1⟩))
   exact ⟨rfl, rfl, hfin.out _ (hb0.trans (hb1.mono hb0.size))⟩
  | true =>
   obtain ⟨hok, hd⟩ := parseB_digits hi hall hlen
   rw [if_pos (by rw [Bool.and_eq_true]; exact ⟨rfl, decide_eq_true hlen⟩)]
   obtain ⟨d, hde⟩ : ∃ d, d = decV aB.data.toList := ⟨_, rfl⟩
   rw [← hde] at hok hd ⊢
   have hPu := hide (fun W hW => (hP W hW).mono fun e w' h => (⟨by
    obtain ⟨⟨n, er, he, h1⟩, -⟩ := h
    rcases h1 with ⟨h1, rfl⟩ | ⟨h1, -⟩
    ·rw [hok] at h1; injection h1 with h1; rw [h1]; exact he
    ·exact absurd hok (h1 _), h.2⟩ : e = .returned (.tuple #[.int .u64 (d : Int), .nilIface]) ∧ Below W.heap.size W w'))
   clear hok hde hP hi hlen
   by_cases hbad : d < 1 ∨ 128 < d
   ·rw [if_pos hbad]
    clear hpz
    rcases hbad with hbad | hbad
    ·have hz1 : (d : Int) < 1 := by omega
     go_enter Tryz.func71, Tryz.ntmps71
     go_wp2_with (first | (go_at_call 89; refine hCt.out.mono ?_; rintro e w0 ⟨rfl, hb0⟩) | (go_at_call 90; refine (hPu.out _ hb0).mono ?_; rintro e w1 ⟨rfl, hb1⟩))
     exact ⟨rfl, rfl, hfin.out _ (hb0.trans (hb1.mono hb0.size))⟩
    ·have hz1 : ¬ (d : Int) < 1 := by omega
     have hz2 : (128 : Int) < (d : Int) := by omega
     go_enter Tryz.func71, Tryz.ntmps71
     go_wp2_with (first | (go_at_call 89; refine hCt.out.mono ?_; rintro e w0 ⟨rfl, hb0⟩) | (go_at_call 90; refine (hPu.out _ hb0).mono ?_; rintro e w1 ⟨rfl, hb1⟩))
     exact ⟨rfl, rfl, hfin.out _ (hb0.trans (hb1.mono hb0.size))⟩
   ·rw [if_neg hbad]
    have hz1 : ¬ (d : Int) < 1 := by omega
    have hz2 : ¬ (128 : Int) < (d : Int) := by omega
    clear hbad
    have hq2 := hq
    obtain ⟨R, hRe⟩ : ∃ R, R = parseR (bB).data.toList := ⟨_, rfl⟩
    unfold valR
    rw [← hRe]
    rw [← hRe] at hpz
    cases R with
    | error n =>
     have hn45 := parseR_err hRe.symm
     have hn0 : ¬ n = 0 := by omega
     have hn0b : (n == 0) = false := beq_eq_false_iff_ne.2 hn0
     have hn0c : (n != 0) = true := bne_iff_ne.2 hn0
     replace hRe := hide hRe
     replace hpz := hide (fun W => show Calls Tryz.prog 91 #[.string (bB)] W fun e w' => e = .returned (.tuple #[.agg #[.int .u64 0, .int .u64 0], .int .i64 n]) ∧ Below W.heap.size W w' from hpz W)
     clear hn45
     go_enter Tryz.func71, Tryz.ntmps71
     go_wp2_with (first | (go_at_call 89; refine hCt.out.mono ?_; rintro e w0 ⟨rfl, hb0⟩) | (go_at_call 90; refine (hPu.out _ hb0).mono ?_; rintro e w1 ⟨rfl, hb1⟩) | (go_at_call 91; refine (hpz.out _).mono ?_; rintro e w2 ⟨rfl, hb2⟩))
     have hb01 := hb0.trans (hb1.mono hb0.size)
     exact ⟨rfl, rfl, hfin.out _ ((hb01.trans (hb2.mono hb01.size)).alloc (Nat.le_trans hb01.size hb2.size) _)⟩
    | ok n =>
     have hnl := parseR_lt hRe.symm
     replace hRe := hide hRe
     have hF := fitN_nat (d) n
     obtain ⟨nh, hnh⟩ : ∃ nh, nh = ((n / 18446744073709551616 : Nat) : Int) := ⟨_, rfl⟩
     obtain ⟨nl, hnl2⟩ : ∃ nl, nl = ((n % 18446744073709551616 : Nat) : Int) := ⟨_, rfl⟩
     have u1 : u64 nh := ⟨by omega, by unfold two128 at hnl; omega⟩
     have u2 : u64 nl := ⟨by omega, by omega⟩
     rw [← hnh, ← hnl2] at hF
     replace hpz := hide (fun W => show Calls Tryz.prog 91 #[.string (bB)] W fun e w' => e = .returned (.tuple #[.agg #[.int .u64 nh, .int .u64 nl], .int .i64 0]) ∧ Below W.heap.size W w' from by rw [hnh, hnl2]; exact hpz W)
     have hFt := hide (fun W => fits_all nh nl ((d : Nat) : Int) W ⟨u1, u2⟩)
     rw [hF] at hFt
     have hend := hide (show numE (.ok (d, n)) = .returned (.tuple #[.int .i64 ((d : Nat) : Int), .agg #[.int .u64 nh, .int .u64 nl]]) from by rw [hnh, hnl2]; rfl)
     clear u1 u2 hnh hnl2 hF hnl
     obtain ⟨ft, hft⟩ : ∃ ft, ft = decide (n < 2 ^ (d)) := ⟨_, rfl⟩
     rw [← hft] at hFt
     replace hft := hide hft
     cases ft with
     | false =>
      rw [show valX d true (.ok n) = if true && !decide (n < 2 ^ d) then .error 5 else .ok (d, n) from rfl, ← hft.out]
      go_enter Tryz.func71, Tryz.ntmps71
      go_wp2_with (first | (go_at_call 89; refine hCt.out.mono ?_; rintro e w0 ⟨rfl, hb0⟩) | (go_at_call 90; refine (hPu.out _ hb0).mono ?_; rintro e w1 ⟨rfl, hb1⟩) | (go_at_call 91; refine (hpz.out _).mono ?_; rintro e w2 ⟨rfl, hb2⟩; obtain ⟨w3, hw3, hs3, hb3, hc3, hf3⟩ := box1 w2 #[.int .u64 nh, .int .u64 nl] 62; have x0 := hc3 0; have x1 := hc3 1; have hl3 : w2.heap.size < w3.heap.size := (by omega); replace hs3 := hide hs3; simp at x0 x1; have hb01 := hb0.trans (hb1.mono hb0.size); have hb02 := hb01.trans (hb2.mono hb01.size); have hb04 := hb02.trans (hb3.mono hb02.size)) | (go_at_call 92; refine (hFt.out _).mono ?_; rintro e w4 ⟨rfl, hb4⟩))
      exact ⟨rfl, rfl, hfin.out _ (hb04.trans (hb4.mono hb04.size))⟩
     | true =>
      rw [show valX d true (.ok n) = if true && !decide (n < 2 ^ d) then .error 5 else .ok (d, n) from rfl, ← hft.out]
      rw [if_neg (by simp), hend.out]
      go_enter Tryz.func71, Tryz.ntmps71
      go_upto_region 17 with (first | (go_at_call 89; refine hCt.out.mono ?_; rintro e w0 ⟨rfl, hb0⟩) | (go_at_call 90; refine (hPu.out _ hb0).mono ?_; rintro e w1 ⟨rfl, hb1⟩) | (go_at_call 91; refine (hpz.out _).mono ?_; rintro e w2 ⟨rfl, hb2⟩; obtain ⟨w3, hw3, hs3, hb3, hc3, hf3⟩ := box1 w2 #[.int .u64 nh, .int .u64 nl] 62; have x0 := hc3 0; have x1 := hc3 1; have hl3 : w2.heap.size < w3.heap.size := (by omega); replace hs3 := hide hs3; simp at x0 x1; have hb01 := hb0.trans (hb1.mono hb0.size); have hb02 := hb01.trans (hb2.mono hb01.size); have hb04 := hb02.trans (hb3.mono hb02.size)) | (go_at_call 92; refine (hFt.out _).mono ?_; rintro e w4 ⟨rfl, hb4⟩))
      have hb05 := hb04.trans (hb4.mono hb04.size)
      obtain ⟨ql, q0, q1, e0, e1⟩ := hq.out.below hb05 hla
      have kb4 := bcell' hb4
      have y0 := (kb4.1 _ 0 hl3).trans x0
      have y1 := (kb4.1 _ 1 hl3).trans x1
      have hl4 := Nat.lt_of_lt_of_le hl3 hb4.size
      have hfx := hide (hfin.out _ hb05)
      clear kb4 hb0 hb1 hb2 hb3 hb4 hb01 hb02 hb04 hb05 hc3 hf3 x0 x1
      go_region
      all_goals
       go_wp2
       exact bodyPost_ret (v := .tuple #[.int .i64 _, .agg #[.int .u64 nh, .int .u64 nl]]) (by simp [results, Tryz.results71, go_sem, q0, q1, ql]) rfl ⟨rfl, (by first | exact (below_set2 hfx.out (Nat.le_refl _) _ _).drew | exact below_set2 hfx.out (Nat.le_refl _) _ _)⟩
 ·have hlz : (3 : Int) < (aB.size : Int) := by omega
  clear hsz has
  have hPu := hide (fun W hW => (hP W hW).mono fun e w' h => (⟨by
   obtain ⟨⟨n, er, he, h1⟩, -⟩ := h
   rcases h1 with ⟨-, rfl⟩ | ⟨-, T, N, rfl⟩
   ·exact ⟨n, .inl he⟩
   ·exact ⟨n, .inr ⟨T, N, he⟩⟩, h.2⟩ : (∃ (n : Nat), e = .returned (.tuple #[.int .u64 n, .nilIface]) ∨ ∃ (T : TypeId) (N : Nat), e = .returned (.tuple #[.int .u64 n, .iface T (.pointer (some ⟨N, 0, none⟩))])) ∧ Below W.heap.size W w'))
  rw [if_neg (by simp; omega)]
  clear hP hi hlen hpz
  go_enter Tryz.func71, Tryz.ntmps71
  go_wp2_with (first | (go_at_call 89; refine hCt.out.mono ?_; rintro e w0 ⟨rfl, hb0⟩) | (go_at_call 90; refine (hPu.out _ hb0).mono ?_; rintro e w1 ⟨⟨un, rfl | ⟨T, N, rfl⟩⟩, hb1⟩))
  all_goals
   exact ⟨rfl, rfl, hfin.out _ (hb0.trans (hb1.mono hb0.size))⟩
theorem number_any (s : ByteArray) (w : World) (hs : s.size ≤ 2000000) (hascii : ∀ c ∈ s.data.toList, c.toNat < 128) (h0 : digB (s.data.toList.headD 0) = true) (hV : VarS w) :
  Calls Tryz.prog 71 #[.string s] w fun e w' => e = numE (numR s.data.toList) ∧ Below w.heap.size w w' := by
 rcases indexByte_nat s.data.toList 119 with hidx | ⟨i, hidx, hil⟩
 ·exact number_thin s w hs hascii hV hidx
 ·refine number_wide s w hs hascii hV i hidx ?_
  cases hl : s.data.toList with
  | nil => rw [hl] at hil; simp at hil
  | cons c r =>
   cases i with
   | zero =>
    exfalso
    rw [hl] at h0 hidx
    unfold Lib.indexByte at hidx
    by_cases hc : (c == 119) = true
    ·have : c = 119 := by simpa using hc
     subst this
     exact absurd (show digB 119 = true from h0) (by decide)
    ·rw [if_neg hc] at hidx
     have := Lib.indexByte_ge r 119
     split at hidx <;> simp_all <;> omega
   | succ i => simp
end Go.Proofs.YtbjokgnnklcbcaaGreatDoor
/-! Layer 3: one token. -/
namespace Go.Proofs.YtbjokgnnklcbcaaGreatDoor
open Go.RowKit
/-- A token's cells. -/
def tkC (k : Nat) (s : ByteArray) (w n a : Nat) : List Value := [.int .u8 (k : Int), .string s, .int .i64 (w : Int), .int .u64 ((n / 18446744073709551616 : Nat) : Int), .int .u64 ((n % 18446744073709551616 : Nat) : Int), .int .i64 (a : Int)]
/-- How the call of one ends. -/
def oneE : Except Int (Nat × List UInt8 × Nat × Nat) → Ending
 | .error n => perr n
 | .ok x => .returned (.agg (tkC x.1 ⟨x.2.1.toArray⟩ x.2.2.1 x.2.2.2 0).toArray)
theorem below_set6 {B g : Nat} {a w : World} (h : Below B a w) (hg : B ≤ g) (v0 v1 v2 v3 v4 v5 : Value) : Below B a ((((((w.setCell ⟨g, 0, none⟩ v0).setCell ⟨g, 1, none⟩ v1).setCell ⟨g, 2, none⟩ v2).setCell ⟨g, 3, none⟩ v3).setCell ⟨g, 4, none⟩ v4).setCell ⟨g, 5, none⟩ v5) :=
 ((((((h.setCell (p := ⟨g, 0, none⟩) hg _).setCell (p := ⟨g, 1, none⟩) hg _).setCell (p := ⟨g, 2, none⟩) hg _).setCell (p := ⟨g, 3, none⟩) hg _).setCell (p := ⟨g, 4, none⟩) hg _).setCell (p := ⟨g, 5, none⟩) hg _)
theorem word_ascii (l : List UInt8) : ∀ c ∈ l.take (wlenL l), c.toNat < 128 ∧ wordB (c.toNat : Nat) = true := by
 intro c hc
 have h : wordB (c.toNat : Nat) = true := by
  unfold wlenL at hc
  have e : l.take (l.takeWhile fun c => wordB c.toNat).length = l.takeWhile fun c => wordB c.toNat := by
   have := List.takeWhile_prefix (fun c : UInt8 => wordB c.toNat) (l := l)
   exact (List.prefix_iff_eq_take.1 this).symm
  rw [e] at hc
  exact (List.all_eq_true.1 List.all_takeWhile) c hc
 refine ⟨?_, h⟩
 unfold wordB digitB letterB at h
 simp only [Bool.or_eq_true, decide_eq_true_eq] at h
 omega
attribute [local go_sem] run_panic_iface
set_option maxRecDepth 100000 in
set_option maxHeartbeats 8000000 in
theorem one_any (s : ByteArray) (w : World) (h0 : 0 < s.size) (hs : s.size ≤ 2000000) (hV : VarS w) :
  Calls Tryz.prog 44 #[.string s] w fun e w' => e = oneE (oneR s.data.toList) ∧ Below w.heap.size w w' := by
 obtain ⟨wa, hwa, hsa, hba, hca, hfa⟩ := box1 w #[.int .u8 0, .string ⟨#[]⟩, .int .i64 0, .int .u64 0, .int .u64 0, .int .i64 0] 64
 have z0 := hca 0
 have z1 := hca 1
 have z2 := hca 2
 have z3 := hca 3
 have z4 := hca 4
 have z5 := hca 5
 simp at z0 z1 z2 z3 z4 z5
 have hVa := hide (hV.below hba (Nat.le_refl _))
 have hla : w.heap.size < wa.heap.size := by omega
 have hfz := hfa
 have hfin := hide (fun W (hW : Below wa.heap.size wa W) => hba.trans (hW.mono hba.size))
 obtain ⟨wB, hwB⟩ : ∃ wB, wB = s.extract 0 (wlen s) := ⟨_, rfl⟩
 have hwl : wB.data.toList = s.data.toList.take (wlenL s.data.toList) := by rw [hwB, ext_take]; rfl
 have hW := hide (fun W => word_any s W (by unfold maxLen; omega))
 rw [← hwB] at hW
 have hws : wB.size ≤ s.size := by rw [Lib.size_eq, hwl, Lib.size_eq]; simp; omega
 have hwk : wB.size ≤ 2000000 := by omega
 have hasc := word_ascii s.data.toList
 rw [← hwl] at hasc
 unfold oneR
 rw [← hwl]
 simp only
 replace hsa := hide hsa
 clear hca hfa hV hba hwB hwl hws
 have f0 := hfz 0
 have f1 := hfz 1
 have f2 := hfz 2
 have f3 := hfz 3
 have f4 := hfz 4
 have f5 := hfz 5
 clear hfz
 by_cases he : wB.data.toList = []
 ·have hem : wB.toList.isEmpty = true := by rw [Lib.toList_data, he]; rfl
  have heb : (wB.toList == []) = true := by rw [Lib.toList_data, he]; rfl
  have hel : wB.toList = [] := by rw [Lib.toList_data, he]
  rw [if_pos he]
  have hM := mark_any s wa h0
  clear he hasc hwk hVa
  by_cases hm : markL s.data.toList = []
  ·rw [if_pos hm]
   have hM' := hide (hM.mono fun e w' h => (by
    rcases h with ⟨h1, ⟨-, h2⟩ | ⟨m, -, h3, -⟩⟩
    ·exact ⟨h2, h1⟩
    ·exact absurd hm h3 : e = perr 4 ∧ w' = wa))
   clear hM hm
   go_enter Tryz.func44, Tryz.ntmps44
   go_wp2_with (first | (go_at_call 61; refine (hW.out _).mono ?_; rintro e w' ⟨rfl, rfl⟩) | (go_at_call 70; refine hM'.out.mono ?_; rintro e w' ⟨rfl, rfl⟩))
   exact ⟨rfl, rfl, hfin.out _ (Below.refl _ _)⟩
  ·rw [if_neg hm]
   obtain ⟨mB, hmB⟩ : ∃ mB : ByteArray, mB = ⟨(markL s.data.toList).toArray⟩ := ⟨_, rfl⟩
   have hM' := hide (hM.mono fun e w' h => (by
    rcases h with ⟨h1, ⟨h3, -⟩ | ⟨m, h2, -, h4⟩⟩
    ·exact absurd h3 hm
    ·exact ⟨by rw [h4, hmB, ← h2], h1⟩ : e = .returned (.string mB) ∧ w' = wa))
   rw [show oneE (.ok (3, markL s.data.toList, 0, 0)) = .returned (.agg #[.int .u8 3, .string mB, .int .i64 0, .int .u64 0, .int .u64 0, .int .i64 0]) from by rw [hmB]; simp [oneE, tkC]]
   clear hM hm hmB
   go_enter Tryz.func44, Tryz.ntmps44
   go_wp2_with (first | (go_at_call 61; refine (hW.out _).mono ?_; rintro e w' ⟨rfl, rfl⟩) | (go_at_call 70; refine hM'.out.mono ?_; rintro e w' ⟨rfl, rfl⟩))
   exact bodyPost_ret (v := .agg #[.int .u8 3, .string mB, .int .i64 0, .int .u64 0, .int .u64 0, .int .i64 0]) (by simp [results, Tryz.results44, go_sem, z0, z1, z2, z3, z4, z5]) rfl ⟨rfl, below_set6 (hfin.out _ (Below.refl _ _)) (Nat.le_refl _) _ _ _ _ _ _⟩
 ·have hem : wB.toList.isEmpty = false := by
   rw [Lib.toList_data]; cases h : wB.data.toList with | nil => exact absurd h he | cons _ _ => rfl
  have hel : ¬ wB.toList = [] := by rw [Lib.toList_data]; exact he
  have heb : (wB.toList == []) = false := beq_eq_false_iff_ne.2 hel
  have hw0 : 0 < wB.size := by rw [Lib.size_eq]; exact List.length_pos_iff.2 he
  have hwz : (0 : Int) < (wB.size : Int) := by omega
  have hwl : wB.size ≤ 9223372036854775807 := by omega
  rw [if_neg he]
  have hhd : digB (wB.data.toList.headD 0) = digitB ((wB[0].toNat : Nat) : Int) := by rw [head_eq hw0]; rfl
  have hD := hide (fun W => isDigit_any ((wB[0].toNat : Nat) : Int) W)
  rw [← hhd] at hD
  clear hel he h0
  cases hd : digB (wB.data.toList.headD 0) with
  | true =>
   have hN := hide (fun (W : World) (hW : Below wa.heap.size wa W) => number_any wB W hwk (fun c hc => (hasc c hc).1) hd (hVa.out.below hW (Nat.le_refl _)))
   rw [hd] at hD
   rw [if_pos rfl]
   clear hhd hd hasc hVa
   generalize numR wB.data.toList = R at hN
   cases R with
   | error n =>
    replace hN := hide (fun (W : World) (hW : Below wa.heap.size wa W) => show Calls Tryz.prog _ _ W fun e w' => e = perr n ∧ Below W.heap.size W w' from hN.out W hW)
    go_enter Tryz.func44, Tryz.ntmps44
    go_wp2_with (first | (go_at_call 61; refine (hW.out _).mono ?_; rintro e w' ⟨rfl, rfl⟩) | (go_at_call 62; refine (hD.out _).mono ?_; rintro e w' ⟨rfl, rfl⟩) | (go_at_call 71; refine (hN.out _ (Below.refl _ _)).mono ?_; rintro e w3 ⟨rfl, hb3⟩))
    exact ⟨rfl, rfl, hfin.out _ hb3⟩
   | ok x =>
    obtain ⟨a, n⟩ := x
    show Calls _ _ _ _ fun e w' => e = .returned (.agg #[.int .u8 2, .string wB, .int .i64 (a : Int), .int .u64 ((n / 18446744073709551616 : Nat) : Int), .int .u64 ((n % 18446744073709551616 : Nat) : Int), .int .i64 0]) ∧ _
    replace hN := hide (fun (W : World) (hW : Below wa.heap.size wa W) => show Calls Tryz.prog _ _ W fun e w' => e = .returned (.tuple #[.int .i64 (a : Int), .agg #[.int .u64 ((n / 18446744073709551616 : Nat) : Int), .int .u64 ((n % 18446744073709551616 : Nat) : Int)]]) ∧ Below W.heap.size W w' from hN.out W hW)
    generalize ((n / 18446744073709551616 : Nat) : Int) = nh at hN
    generalize ((n % 18446744073709551616 : Nat) : Int) = nl at hN
    generalize (a : Int) = az at hN
    go_enter Tryz.func44, Tryz.ntmps44
    go_wp2_with (first | (go_at_call 61; refine (hW.out _).mono ?_; rintro e w' ⟨rfl, rfl⟩) | (go_at_call 62; refine (hD.out _).mono ?_; rintro e w' ⟨rfl, rfl⟩) | (go_at_call 71; refine (hN.out _ (Below.refl _ _)).mono ?_; rintro e w3 ⟨rfl, hb3⟩; obtain ⟨w4, hw4, hs4, hb4, hc4, hf4⟩ := box1 w3 #[.int .u64 nh, .int .u64 nl] 62; have x0 := hc4 0; have x1 := hc4 1; replace hs4 := hide hs4; simp at x0 x1; have hb34 := hb3.trans (hb4.mono hb3.size); have kb4 := bcell' hb34; have q4 := Nat.lt_of_lt_of_le hla hb34.size; have y0 := (kb4.1 _ 0 hla).trans z0; have y1 := (kb4.1 _ 1 hla).trans z1; have y2 := (kb4.1 _ 2 hla).trans z2; have y3 := (kb4.1 _ 3 hla).trans z3; have y4 := (kb4.1 _ 4 hla).trans z4; have y5 := (kb4.1 _ 5 hla).trans z5; have g0 := (kb4.2 _ 0 hla).trans f0; have g1 := (kb4.2 _ 1 hla).trans f1; have g2 := (kb4.2 _ 2 hla).trans f2; have g3 := (kb4.2 _ 3 hla).trans f3; have g4 := (kb4.2 _ 4 hla).trans f4; have g5 := (kb4.2 _ 5 hla).trans f5))
    exact bodyPost_ret (v := .agg #[.int .u8 2, .string wB, .int .i64 az, .int .u64 nh, .int .u64 nl, .int .i64 0]) (by simp [results, Tryz.results44, go_sem, y0, y1, y2, y3, y4, y5, q4]) rfl ⟨rfl, below_set6 (hfin.out _ hb34) (Nat.le_refl _) _ _ _ _ _ _⟩
  | false =>
   rw [hd] at hD
   rw [if_neg (by simp)]
   clear hhd hd hasc hVa
   by_cases h16 : 16 < wB.data.toList.length
   ·rw [if_pos h16]
    rw [← Lib.size_eq] at h16
    have h16z : (16 : Int) < (wB.size : Int) := by omega
    replace h16 := hide h16
    go_enter Tryz.func44, Tryz.ntmps44
    go_wp2_with (first | (go_at_call 61; refine (hW.out _).mono ?_; rintro e w' ⟨rfl, rfl⟩) | (go_at_call 62; refine (hD.out _).mono ?_; rintro e w' ⟨rfl, rfl⟩))
    exact ⟨rfl, rfl, hfin.out _ (Below.refl _ _)⟩
   ·rw [if_neg h16]
    rw [← Lib.size_eq] at h16
    have h16z : ¬ (16 : Int) < (wB.size : Int) := by omega
    replace h16 := hide h16
    rw [show oneE (.ok (1, wB.data.toList, 0, 0)) = .returned (.agg #[.int .u8 1, .string wB, .int .i64 0, .int .u64 0, .int .u64 0, .int .i64 0]) from by simp [oneE, tkC]]
    go_enter Tryz.func44, Tryz.ntmps44
    go_wp2_with (first | (go_at_call 61; refine (hW.out _).mono ?_; rintro e w' ⟨rfl, rfl⟩) | (go_at_call 62; refine (hD.out _).mono ?_; rintro e w' ⟨rfl, rfl⟩))
    exact bodyPost_ret (v := .agg #[.int .u8 1, .string wB, .int .i64 0, .int .u64 0, .int .u64 0, .int .i64 0]) (by simp [results, Tryz.results44, go_sem, z0, z1, z2, z3, z4, z5]) rfl ⟨rfl, below_set6 (hfin.out _ (Below.refl _ _)) (Nat.le_refl _) _ _ _ _ _ _⟩
end Go.Proofs.YtbjokgnnklcbcaaGreatDoor
/-! Plain: the place of a byte. -/
namespace Go.Proofs.YtbjokgnnklcbcaaGreatDoor
open Go.Lib
/-- A line and a column, one byte on. -/
def plS (p : Nat × Nat) (c : UInt8) : Nat × Nat := if c = 10 then (p.1 + 1, 1) else (p.1, p.2 + 1)
def placeR (l : List UInt8) : Nat × Nat := l.foldl plS (1, 1)
theorem placeR_succ (l : List UInt8) {k : Nat} (h : k < l.length) : placeR (l.take (k + 1)) = plS (placeR (l.take k)) l[k] := by
 unfold placeR
 rw [List.take_succ_eq_append_getElem h, List.foldl_append]
 rfl
theorem lastIdx_le (s : ByteArray) (c : Int) : ∀ k, -1 ≤ lastIdx s c k ∧ lastIdx s c k < (k : Int)
 | 0 => by simp [lastIdx]
 | k + 1 => by
  have := lastIdx_le s c k
  unfold lastIdx
  split <;> omega
theorem placeR_last (s : ByteArray) : ∀ k, k ≤ s.size → placeR (s.data.toList.take k) = (countByte (s.data.toList.take k) 10 + 1, ((k : Int) - (lastIdx s 10 k + 1) + 1).toNat)
 | 0, _ => by simp [placeR, countByte, lastIdx]
 | k + 1, h => by
  have ih := placeR_last s k (by omega)
  have hl : k < s.data.toList.length := by rw [← size_eq]; omega
  have hle := lastIdx_le s 10 k
  rw [placeR_succ _ hl, ih]
  have e : s.data[k]! = s.data.toList[k] := by
   rw [getElem!_pos s.data k (by simpa using hl)]
   simp
  have e0 : lastIdx s 10 (k + 1) = if ((s.data[k]!).toNat : Int) = 10 then (k : Int) else lastIdx s 10 k := rfl
  rw [e0, e]
  unfold countByte
  rw [List.take_succ_eq_append_getElem hl, List.count_append]
  generalize s.data.toList[k] = c
  by_cases hc : c = 10
  ·subst hc
   simp [plS]
  ·have hn : ¬ ((c.toNat : Nat) : Int) = 10 := fun h => hc (UInt8.toNat_inj.1 (by show _ = 10; omega))
   have h0 : List.count 10 [c] = 0 := by
    rw [List.count_eq_zero]
    simp only [List.mem_singleton]
    exact fun h => hc h.symm
   rw [if_neg hn, h0]
   unfold plS
   rw [if_neg hc]
   show (_, _) = (_, _)
   rw [Nat.add_zero]
   congr 1
   show _ + 1 = _
   omega
theorem placeR_all (s : ByteArray) : placeR s.data.toList = (countByte s.data.toList 10 + 1, ((s.size : Int) - (lastIndexByte s 10 + 1) + 1).toNat) ∧ -1 ≤ lastIndexByte s 10 ∧ lastIndexByte s 10 < s.size := by
 have := placeR_last s s.size (Nat.le_refl _)
 rw [List.take_of_length_le (by rw [← size_eq]; exact Nat.le_refl _)] at this
 exact ⟨this, lastIdx_le s 10 s.size⟩
theorem placeR_pos (l : List UInt8) : 1 ≤ (placeR l).1 ∧ (placeR l).1 ≤ l.length + 1 ∧ 1 ≤ (placeR l).2 ∧ (placeR l).2 ≤ l.length + 1 := by
 have : ∀ (l : List UInt8) (p : Nat × Nat), 1 ≤ p.1 → 1 ≤ p.2 → 1 ≤ (l.foldl plS p).1 ∧ (l.foldl plS p).1 ≤ p.1 + l.length ∧ 1 ≤ (l.foldl plS p).2 ∧ (l.foldl plS p).2 ≤ p.2 + l.length := by
  intro l
  induction l with
  | nil => intro p h1 h2; simp; omega
  | cons c r ih =>
   intro p h1 h2
   rw [List.foldl_cons]
   have := ih (plS p c) (by unfold plS; split <;> simp <;> omega) (by unfold plS; split <;> simp)
   simp only [List.length_cons]
   have e1 : (plS p c).1 ≤ p.1 + 1 := by unfold plS; split <;> simp
   have e2 : (plS p c).2 ≤ p.2 + 1 := by unfold plS; split <;> simp <;> omega
   omega
 have := this l (1, 1) (by simp) (by simp)
 simp only at this
 unfold placeR
 omega
end Go.Proofs.YtbjokgnnklcbcaaGreatDoor

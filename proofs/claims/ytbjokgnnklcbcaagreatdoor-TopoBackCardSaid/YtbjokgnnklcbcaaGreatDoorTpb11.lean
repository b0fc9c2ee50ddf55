import Derived.Test.YtbjokgnnklcbcaaGreatDoorTpb06
import Derived.Lib.SliceRun
import Derived.Lib.Walk
import Derived.Shelf.Abstract
import Derived.Laws.EntriesVeiled
import Derived.Test.YtbjokgnnklcbcaaGreatDoorTpb04
import Derived.Deep.WholeRow
import Derived.Laws.ResultCell
import Derived.Laws.CopyOwn
import Derived.Test.YtbjokgnnklcbcaaGreatDoorTpb10
import Derived.Test.YtbjokgnnklcbcaaGreatDoorTpb07
import Derived.Deep.DeepCutAuto
import Derived.Test.YtbjokgnnklcbcaaGreatDoorTpb08
set_option linter.all false
/-! The document's numbers (quillonref01): bits of a number. -/
namespace Go.Proofs.YtbjokgnnklcbcaaGreatDoor
open Go.RowKit
/-- A whole row out of memory, into memory: kept from being opened. -/
def LoadG (v : Value) : Sem Value := Instr.loadAt 193 v
theorem load_eq (v : Value) : Instr.loadAt 193 v = LoadG v := rfl
def StoreG (v u : Value) : Sem Unit := Instr.storeAt 193 v u
theorem store_eq (v u : Value) : Instr.storeAt 193 v u = StoreG v u := rfl
attribute [local go_sem ↓] load_eq store_eq
end Go.Proofs.YtbjokgnnklcbcaaGreatDoor
/-! Layer 1: Fits at any width. -/
namespace Go.Proofs.YtbjokgnnklcbcaaGreatDoor
open Go.RowKit
def clN (z : Int) : Nat := if z < 1 then 0 else (min z 128).toNat
theorem clN_le (z : Int) : clN z ≤ 128 := by unfold clN; split <;> omega
theorem u64_lt {hi lo : Int} (h : u64 hi ∧ u64 lo) : 0 ≤ numV (0, hi, lo) ∧ numV (0, hi, lo) < 2 ^ 128 := by
 obtain ⟨⟨a0, a1⟩, b0, b1⟩ := h
 unfold numV
 simp only
 have : (2 : Int) ^ 128 = 18446744073709551616 * 18446744073709551616 := by decide
 omega
theorem fitN_lo {z hi lo : Int} (h : u64 hi ∧ u64 lo) (hz : z < 1) : fitN z hi lo = (decide (hi = 0) && decide (lo = 0)) := by
 obtain ⟨⟨a0, a1⟩, b0, b1⟩ := h
 unfold fitN fitsB numV
 rw [show z.toNat = 0 by omega]
 rw [Bool.eq_iff_iff]
 simp only [Bool.and_eq_true, decide_eq_true_eq]
 omega
theorem fitN_hi {z hi lo : Int} (h : u64 hi ∧ u64 lo) (hz : 128 ≤ z) : fitN z hi lo = true := by
 unfold fitN fitsB
 have h1 := (u64_lt h).2
 have h2 : (2 : Int) ^ 128 ≤ 2 ^ z.toNat := by
  have := Nat.pow_le_pow_right (n := 2) (by omega) (show 128 ≤ z.toNat by omega)
  have h3 := Int.ofNat_le.2 this
  rw [Int.natCast_pow, Int.natCast_pow] at h3
  exact h3
 rw [decide_eq_true_eq]; omega
set_option maxHeartbeats 1000000 in
theorem mask_zero (z : Int) (w : World) (hz : z < 1) : Calls Tryz.prog 159 #[.int .i64 z] w fun e w' => e = .returned (.agg #[.int .u64 0, .int .u64 0]) ∧ Below w.heap.size w w' := by
 obtain ⟨wa, hwa, hsa, hba, hca, hfa⟩ := box1 w #[.int .u64 0, .int .u64 0] 62
 obtain ⟨wb, hwb, hsb, hbb, hcb, -⟩ := box1 wa #[.int .u64 18446744073709551615, .int .u64 18446744073709551615] 62
 have hw := hba.trans (hbb.mono (by omega))
 have x0 : wb.cell? ⟨w.heap.size, 0, none⟩ = some (.int .u64 0) := (hbb.cell (p := ⟨w.heap.size, 0, none⟩) (by show w.heap.size < _; omega)).trans (hca 0)
 have x1 : wb.cell? ⟨w.heap.size, 1, none⟩ = some (.int .u64 0) := (hbb.cell (p := ⟨w.heap.size, 1, none⟩) (by show w.heap.size < _; omega)).trans (hca 1)
 have f0 : ∀ i, wb.frozen? ⟨w.heap.size, i, none⟩ = false := fun i => (hbb.frozen (p := ⟨w.heap.size, i, none⟩) (by show w.heap.size < _; omega)).trans (hfa i)
 simp only [hsa] at hcb
 have y0 : wb.cell? ⟨w.heap.size + 1, 0, none⟩ = some (.int .u64 18446744073709551615) := hcb 0
 have y1 : wb.cell? ⟨w.heap.size + 1, 1, none⟩ = some (.int .u64 18446744073709551615) := hcb 1
 have hzz : w.heap.size < wb.heap.size := by omega
 replace hw := hide hw
 replace hsb := hide hsb
 clear hca hcb hba hbb hfa
 go_enter Tryz.func159, Tryz.ntmps159
 go_wp2
 refine bodyPost_ret (v := .agg #[.int .u64 0, .int .u64 0]) (by simp [results, Tryz.results159, go_sem, hzz, x0, x1]) rfl ⟨rfl, ?_⟩
 exact ((hw.out).setCell (by simp) _).setCell (by simp) _
theorem mask_all (z : Int) (w : World) : Calls Tryz.prog 159 #[.int .i64 z] w fun e w' => e = .returned (.agg #[.int .u64 (maskH (clN z)), .int .u64 (maskL (clN z))]) ∧ Below w.heap.size w w' := by
 by_cases hz : z < 1
 ·have : clN z = 0 := by simp [clN, hz]
  rw [this]
  exact mask_zero z w hz
 ·refine mask_of z (clN z) w ?_ (clN_le z) ?_ hz
  ·unfold clN; rw [if_neg hz]; omega
  ·unfold clN; rw [if_neg hz]; omega
theorem fits_all (hi lo z : Int) (W : World) (h : u64 hi ∧ u64 lo) : Calls Tryz.prog 92 #[.agg #[.int .u64 hi, .int .u64 lo], .int .i64 z] W fun e w' => e = .returned (.bool (fitN z hi lo)) ∧ Below W.heap.size W w' := by
 have hF := fits_of hi lo z _ _ W fun W => cut_of hi lo z _ _ W fun W => mask_all z W
 have e : (andI hi (maskH (clN z)) == hi && andI lo (maskL (clN z)) == lo) = fitN z hi lo := by
  by_cases hz : z < 1
  ·have hc : clN z = 0 := by simp [clN, hz]
   rw [hc, fitN_lo h hz]
   have e1 : ∀ x : Int, u64 x → andI x 0 = 0 := fun x hx => by have := and_mask x 0 hx.1 hx.2 (by omega); simpa using this
   simp only [maskH, maskL, Nat.zero_le, if_true, Int.pow_zero]
   rw [show (1 : Int) - 1 = 0 from rfl, e1 hi h.1, e1 lo h.2, Bool.eq_iff_iff]
   simp only [Bool.and_eq_true, beq_iff_eq, decide_eq_true_eq]
   constructor <;> rintro ⟨a, b⟩ <;> exact ⟨a.symm, b.symm⟩
  ·have h0 : okLt (0, hi, lo) := ⟨by simp [i64], h.1, h.2⟩
   have h1 : 1 ≤ clN z := by unfold clN; rw [if_neg hz]; omega
   rw [fits_eq (0, hi, lo) (clN z) h0 h1 (clN_le z)]
   by_cases hz2 : z < 128
   ·have : (clN z : Int) = z := by unfold clN; rw [if_neg hz]; omega
    rw [this]; rfl
   ·have : (clN z : Int) = 128 := by unfold clN; rw [if_neg hz]; omega
    rw [fitN_hi h (by omega), this]
    exact fitN_hi (z := 128) h (by omega)
 rw [← e]; exact hF
end Go.Proofs.YtbjokgnnklcbcaaGreatDoor
/-! Layer 3: a word as a number. -/
namespace Go.Proofs.YtbjokgnnklcbcaaGreatDoor
open Go.RowKit
/-- What a call reads of the variables: MaxLen, strconv's two errors. -/
structure VarS (w : World) : Prop where
 m : ∃ m, w.cell? ⟨0, 0, none⟩ = some (.int .i64 m)
 s : ∃ ev, w.cell? ⟨2, 0, none⟩ = some ev ∧ (ev = .nilIface ∨ ∃ te pe, ev = .iface te pe)
 r : ∃ ev, w.cell? ⟨3, 0, none⟩ = some ev ∧ (ev = .nilIface ∨ ∃ te pe, ev = .iface te pe)
theorem cell_lt {w : World} {b o : Nat} {v : Value} (h : w.cell? ⟨b, o, none⟩ = some v) : b < w.heap.size := by
 unfold World.cell? at h
 by_cases hb : b < w.heap.size
 ·exact hb
 ·rw [Array.getElem?_eq_none (by show w.heap.size ≤ b; omega)] at h
  simp at h
theorem VarS.below {w w' : World} {B : Nat} (h : VarS w) (hb : Below B w w') (hB : w.heap.size ≤ B) : VarS w' := by
 obtain ⟨⟨m, hm⟩, ⟨e1, h1, k1⟩, ⟨e2, h2, k2⟩⟩ := h
 exact ⟨⟨m, (hb.cell (p := ⟨0, 0, none⟩) (Nat.lt_of_lt_of_le (cell_lt hm) hB)).trans hm⟩, ⟨e1, (hb.cell (p := ⟨2, 0, none⟩) (Nat.lt_of_lt_of_le (cell_lt h1) hB)).trans h1, k1⟩, ⟨e2, (hb.cell (p := ⟨3, 0, none⟩) (Nat.lt_of_lt_of_le (cell_lt h2) hB)).trans h2, k2⟩⟩
theorem pu_any (s : ByteArray) (w : World) (hs : s.size ≤ 2000000) (hV : VarS w) :
  Calls Tryz.prog 90 #[.string s, .int .i64 10, .int .i64 16] w fun e w' => (∃ (n : Nat) (er : Value), e = .returned (.tuple #[.int .u64 n, er]) ∧ ((Lib.parseUintB 16 s.data.toList = .ok n ∧ er = .nilIface) ∨ ((∀ u, Lib.parseUintB 16 s.data.toList ≠ .ok u) ∧ ∃ (T : TypeId) (N : Nat), er = .iface T (.pointer (some ⟨N, 0, none⟩))))) ∧ Below w.heap.size w w' := by
 obtain ⟨-, ⟨e1, h1, k1⟩, ⟨e2, h2, k2⟩⟩ := hV
 rcases h : Lib.parseUintB 16 s.data.toList with u | _ | _
 ·refine (Tryz.strconv_ParseUint_10_at16_ok s (by omega) u h w).mono ?_
  rintro e w' ⟨rfl, hw⟩
  refine ⟨⟨u, .nilIface, rfl, .inl ⟨rfl, rfl⟩⟩, ?_⟩
  rcases hw with rfl | rfl
  ·exact Below.refl _ _
  ·exact Lib.bytesWorld_below _ _ _
 ·refine (Tryz.strconv_ParseUint_10_at16_syntax s (by omega) h e1 w h1 k1).mono ?_
  rintro e w' ⟨N, rfl, -, -, hb⟩
  exact ⟨⟨0, _, rfl, .inr ⟨by simp, _, N, rfl⟩⟩, hb⟩
 ·refine (Tryz.strconv_ParseUint_10_at16_range s (by omega) h e2 w h2 k2).mono ?_
  rintro e w' ⟨N, rfl, -, -, hb⟩
  exact ⟨⟨65535, _, rfl, .inr ⟨by simp, _, N, rfl⟩⟩, hb⟩
/-- How a number's call ends. -/
def numE : Except Int (Nat × Nat) → Ending
 | .error n => perr n
 | .ok x => .returned (.tuple #[.int .i64 (x.1 : Int), .agg #[.int .u64 ((x.2 / 18446744073709551616 : Nat) : Int), .int .u64 ((x.2 % 18446744073709551616 : Nat) : Int)]])
theorem fitN_nat (k n : Nat) : fitN (k : Int) ((n / 18446744073709551616 : Nat) : Int) ((n % 18446744073709551616 : Nat) : Int) = decide (n < 2 ^ k) := by
 unfold fitN fitsB numV
 simp only
 rw [decide_eq_decide, Int.toNat_natCast]
 have e : ((n / 18446744073709551616 : Nat) : Int) * 18446744073709551616 + ((n % 18446744073709551616 : Nat) : Int) = (n : Int) := by omega
 have e2 : ((2 ^ k : Nat) : Int) = (2 : Int) ^ k := by simp
 rw [← e2]
 omega
theorem parseR_err {l : List UInt8} {e : Int} (h : parseR l = .error e) : e = 4 ∨ e = 5 := by
 unfold parseR at h
 simp only at h
 repeat' split at h
 all_goals first
  | (injection h with h; omega)
  | cases h
theorem parseR_lt {l : List UInt8} {n : Nat} (h : parseR l = .ok n) : n < two128 := by
 unfold parseR at h
 simp only at h
 repeat' split at h
 all_goals first
  | (injection h with h; rw [← h]; exact accV_lt _ _)
  | cases h
theorem take_size (s : ByteArray) (n : Nat) : (⟨(s.data.toList.take n).toArray⟩ : ByteArray).size ≤ s.size := by
 rw [Lib.size_eq, Lib.size_eq]
 simp
 omega
theorem drop_size (s : ByteArray) (n : Nat) : (⟨(s.data.toList.drop n).toArray⟩ : ByteArray).size ≤ s.size := by
 rw [Lib.size_eq, Lib.size_eq]
 simp
attribute [local go_sem] run_panic_iface
theorem numR_thin {l : List UInt8} (h : Lib.indexByte l 119 = -1) : numR l = valR 0 false l := by
 unfold numR
 rw [h]
 exact if_neg (by decide)
theorem numR_wide {l : List UInt8} {i : Nat} (h : Lib.indexByte l 119 = (i : Int)) : numR l = if (l.take i).all digB && decide ((l.take i).length ≤ 3) then (if decV (l.take i) < 1 ∨ 128 < decV (l.take i) then .error 10 else valR (decV (l.take i)) true (l.drop (i + 1))) else .error 4 := by
 unfold numR
 rw [h]
 exact if_pos (by omega)
attribute [local go_sem] run_panic_iface
set_option maxRecDepth 100000 in
set_option maxHeartbeats 8000000 in
theorem number_thin (s : ByteArray) (w : World) (hs : s.size ≤ 2000000) (hascii : ∀ c ∈ s.data.toList, c.toNat < 128) (hV : VarS w) (hidx : Lib.indexByte s.data.toList 119 = -1) :
  Calls Tryz.prog 71 #[.string s] w fun e w' => e = numE (numR s.data.toList) ∧ Below w.heap.size w w' := by
 obtain ⟨wa, hwa, hsa, hba, hca, hfa⟩ := box1 w #[.int .u64 0, .int .u64 0] 62
 have hq := hide (show NBox wa w.heap.size 0 0 from ⟨by omega, hca 0, hca 1, hfa 0, hfa 1⟩)
 have hVa := hide (hV.below hba (Nat.le_refl _))
 have hla : w.heap.size < wa.heap.size := by omega
 obtain ⟨m, hm⟩ := hVa.out.m
 have hCt := Tryz.strings_Cut s ⟨#[119]⟩ m wa (by omega) hm
 rw [show (⟨#[119]⟩ : ByteArray).data.toList = [119] from rfl, cut_w, hidx, if_neg (by decide)] at hCt
 have hfin := hide (fun W (hW : Below wa.heap.size wa W) => hba.trans (hW.mono hba.size))
 rw [numR_thin hidx]
 replace hsa := hide hsa
 clear hca hfa hV hba hm hidx
 replace hCt := hide (hCt.mono fun e w' h => (⟨h.1, by obtain ⟨n, hn⟩ := h.2; rw [hn]; exact below_drewN (Below.refl _ _) n⟩ : _ ∧ Below wa.heap.size wa w'))
 have hpz := fun W => lparse_any s W hs hascii
 obtain ⟨R, hRe⟩ : ∃ R, R = parseR (s).data.toList := ⟨_, rfl⟩
 unfold valR
 rw [← hRe]
 rw [← hRe] at hpz
 cases R with
 | error n =>
  have hn45 := parseR_err hRe.symm
  have hn0 : ¬ n = 0 := by omega
  have hn0b : (n == 0) = false := beq_eq_false_iff_ne.2 hn0
  have hn0c : (n != 0) = true := bne_iff_ne.2 hn0
  replace hRe := hide hRe
  replace hpz := hide (fun W => show Calls Tryz.prog 91 #[.string (s)] W fun e w' => e = .returned (.tuple #[.agg #[.int .u64 0, .int .u64 0], .int .i64 n]) ∧ Below W.heap.size W w' from hpz W)
  clear hn45
  go_enter Tryz.func71, Tryz.ntmps71
  go_wp2_with (first | (go_at_call 89; refine hCt.out.mono ?_; rintro e w1 ⟨rfl, hb1⟩) | (go_at_call 90; refine hPu.out.mono ?_; rintro e w1 ⟨rfl, hb1⟩) | (go_at_call 91; refine (hpz.out _).mono ?_; rintro e w2 ⟨rfl, hb2⟩))
  exact ⟨rfl, rfl, hfin.out _ ((hb1.trans (hb2.mono hb1.size)).alloc (Nat.le_trans hb1.size hb2.size) _)⟩
 | ok n =>
  have hnl := parseR_lt hRe.symm
  replace hRe := hide hRe
  have hF := fitN_nat (0) n
  obtain ⟨nh, hnh⟩ : ∃ nh, nh = ((n / 18446744073709551616 : Nat) : Int) := ⟨_, rfl⟩
  obtain ⟨nl, hnl2⟩ : ∃ nl, nl = ((n % 18446744073709551616 : Nat) : Int) := ⟨_, rfl⟩
  have u1 : u64 nh := ⟨by omega, by unfold two128 at hnl; omega⟩
  have u2 : u64 nl := ⟨by omega, by omega⟩
  rw [← hnh, ← hnl2] at hF
  replace hpz := hide (fun W => show Calls Tryz.prog 91 #[.string (s)] W fun e w' => e = .returned (.tuple #[.agg #[.int .u64 nh, .int .u64 nl], .int .i64 0]) ∧ Below W.heap.size W w' from by rw [hnh, hnl2]; exact hpz W)
  have hFt := hide (fun W => fits_all nh nl ((0 : Nat) : Int) W ⟨u1, u2⟩)
  rw [hF] at hFt
  have hend := hide (show numE (.ok (0, n)) = .returned (.tuple #[.int .i64 ((0 : Nat) : Int), .agg #[.int .u64 nh, .int .u64 nl]]) from by rw [hnh, hnl2]; rfl)
  clear u1 u2 hnh hnl2 hF hnl
  generalize decide (n < 2 ^ (0)) = ft at hFt
  clear hFt
  rw [show valX 0 false (.ok n) = .ok (0, n) from rfl, hend.out]
  go_enter Tryz.func71, Tryz.ntmps71
  go_upto_region 17 with (first | (go_at_call 89; refine hCt.out.mono ?_; rintro e w1 ⟨rfl, hb1⟩) | (go_at_call 91; refine (hpz.out _).mono ?_; rintro e w2 ⟨rfl, hb2⟩; obtain ⟨w3, hw3, hs3, hb3, hc3, hf3⟩ := box1 w2 #[.int .u64 nh, .int .u64 nl] 62; have x0 := hc3 0; have x1 := hc3 1; replace hs3 := hide hs3))
  have hb12 := hb1.trans (hb2.mono hb1.size)
  have hb13 := hb12.trans (hb3.mono hb12.size)
  have hs3' := hs3.out
  have hl3 : w2.heap.size < w3.heap.size := by omega
  obtain ⟨ql, q0, q1, e0, e1⟩ := hq.out.below hb13 hla
  simp at x0 x1
  have hfx := hide (hfin.out _ hb13)
  clear hs3' hb1 hb2 hb3 hb12 hb13 hc3 hf3
  go_region
  all_goals
   go_wp2
   exact bodyPost_ret (v := .tuple #[.int .i64 _, .agg #[.int .u64 nh, .int .u64 nl]]) (by simp [results, Tryz.results71, go_sem, q0, q1, ql]) rfl ⟨rfl, (by first | exact (below_set2 hfx.out (Nat.le_refl _) _ _).drew | exact below_set2 hfx.out (Nat.le_refl _) _ _)⟩
set_option maxRecDepth 100000 in
set_option maxHeartbeats 8000000 in
theorem number_wide (s : ByteArray) (w : World) (hs : s.size ≤ 2000000) (hascii : ∀ c ∈ s.data.toList, c.toNat < 128) (hV : VarS w) (i : Nat) (hidx : Lib.indexByte s.data.toList 119 = (i : Int)) (hi : s.data.toList.take i ≠ []) :
  Calls Tryz.prog 71 #[.string s] w fun e w' => e = numE (numR s.data.toList) ∧ Below w.heap.size w w' := by
 obtain ⟨wa, hwa, hsa, hba, hca, hfa⟩ := box1 w #[.int .u64 0, .int .u64 0] 62
 have hq := hide (show NBox wa w.heap.size 0 0 from ⟨by omega, hca 0, hca 1, hfa 0, hfa 1⟩)
 have hVa := hide (hV.below hba (Nat.le_refl _))
 have hla : w.heap.size < wa.heap.size := by omega
 obtain ⟨m, hm⟩ := hVa.out.m
 have hCt := Tryz.strings_Cut s ⟨#[119]⟩ m wa (by omega) hm
 rw [show (⟨#[119]⟩ : ByteArray).data.toList = [119] from rfl, cut_w, hidx, if_pos (by omega)] at hCt
 have hfin := hide (fun W (hW : Below wa.heap.size wa W) => hba.trans (hW.mono hba.size))
 rw [numR_wide hidx]
 replace hsa := hide hsa
 clear hca hfa hV hba hm hidx
 obtain ⟨aB, haB⟩ : ∃ aB : ByteArray, aB = ⟨(s.data.toList.take i).toArray⟩ := ⟨_, rfl⟩
 obtain ⟨bB, hbB⟩ : ∃ bB : ByteArray, bB = ⟨(s.data.toList.drop (i + 1)).toArray⟩ := ⟨_, rfl⟩
 have hCt' : Calls Tryz.prog 89 #[.string s, .string ⟨#[119]⟩] wa fun e w' => e = .returned (.tuple #[.string aB, .string bB, .bool true]) ∧ Below wa.heap.size wa w' := by
  rw [haB, hbB]
  exact hCt.mono fun e w' h => ⟨h.1, by obtain ⟨n, hn⟩ := h.2; rw [hn]; exact below_drewN (Below.refl _ _) n⟩
 have hbs : bB.size ≤ 2000000 := by rw [hbB]; exact Nat.le_trans (drop_size s _) hs
 have has : aB.size ≤ 2000000 := by rw [haB]; exact Nat.le_trans (take_size s _) hs
 have hbd : bB.data.toList = s.data.toList.drop (i + 1) := by rw [hbB]
 have had : aB.data.toList = s.data.toList.take i := by rw [haB]
 have hba : ∀ c ∈ bB.data.toList, c.toNat < 128 := fun c hc => hascii c (by rw [hbd] at hc; exact List.mem_of_mem_drop hc)
 have hpz := fun W => lparse_any bB W hbs hba
 have hP := fun W hW => pu_any aB W has (hVa.out.below (show Below wa.heap.size wa W from hW) (Nat.le_refl _))
 rw [← had] at hi ⊢
 rw [← hbd]
 rw [Lib.size_eq] at has
 have hsz := Lib.size_eq aB
 have hal : aB.size ≤ 9223372036854775807 := by omega
 clear hCt haB hbB hbs hbd had hba hascii hs
 replace hCt := hide hCt'
 clear hCt'
 by_cases hlen : aB.data.toList.length ≤ 3
 ·have hlz : ¬ (3 : Int) < (aB.size : Int) := by omega
  clear hsz has
  cases hall : aB.data.toList.all digB with
  | false =>
   have hb := parseB_bad hall hlen
   have hPu := hide (fun W hW => (hP W hW).mono fun e w' h => (⟨by
    obtain ⟨⟨n, er, he, h1⟩, -⟩ := h
    rcases h1 with ⟨h1, -⟩ | ⟨-, T, N, rfl⟩
    ·exact absurd h1 (hb n)
    ·exact ⟨n, T, N, he⟩, h.2⟩ : (∃ (n : Nat) (T : TypeId) (N : Nat), e = .returned (.tuple #[.int .u64 n, .iface T (.pointer (some ⟨N, 0, none⟩))])) ∧ Below W.heap.size W w'))
   rw [if_neg (by simp)]
   clear hb hP hi hlen hpz
   go_enter Tryz.func71, Tryz.ntmps71
   go_wp2_with (first | (go_at_call 89; refine hCt.out.mono ?_; rintro e w0 ⟨rfl, hb0⟩) | (go_at_call 90; refine (hPu.out _ hb0).mono ?_; rintro e w1 ⟨⟨un, T, N, rfl⟩, hb1⟩))
   exact ⟨rfl, rfl, hfin.out _ (hb0.trans (hb1.mono hb0.size))⟩
  | true =>
   obtain ⟨hok, hd⟩ := parseB_digits hi hall hlen
   rw [if_pos (by rw [Bool.and_eq_true]; exact ⟨rfl, decide_eq_true hlen⟩)]
   obtain ⟨d, hde⟩ : ∃ d, d = decV aB.data.toList := ⟨_, rfl⟩
   rw [← hde] at hok hd ⊢
   have hPu := hide (fun W hW => (hP W hW).mono fun e w' h => (⟨by
    obtain ⟨⟨n, er, he, h1⟩, -⟩ := h
    rcases h1 with ⟨h1, rfl⟩ | ⟨h1, -⟩
    ·rw [hok] at h1; injection h1 with h1; rw [h1]; exact he
    ·exact absurd hok (h1 _), h.2⟩ : e = .returned (.tuple #[.int .u64 (d : Int), .nilIface]) ∧ Below W.heap.size W w'))
   clear hok hde hP hi hlen
   by_cases hbad : d < 1 ∨ 128 < d
   ·rw [if_pos hbad]
    clear hpz
    rcases hbad with hbad | hbad
    ·have hz1 : (d : Int) < 1 := by omega
     go_enter Tryz.func71, Tryz.ntmps71
     go_wp2_with (first | (go_at_call 89; refine hCt.out.mono ?_; rintro e w0 ⟨rfl, hb0⟩) | (go_at_call 90; refine (hPu.out _ hb0).mono ?_; rintro e w1 ⟨rfl, hb1⟩))
     exact ⟨rfl, rfl, hfin.out _ (hb0.trans (hb1.mono hb0.size))⟩
    ·have hz1 : ¬ (d : Int) < 1 := by omega
     have hz2 : (128 : Int) < (d : Int) := by omega
     go_enter Tryz.func71, Tryz.ntmps71
     go_wp2_with (first | (go_at_call 89; refine hCt.out.mono ?_; rintro e w0 ⟨rfl, hb0⟩) | (go_at_call 90; refine (hPu.out _ hb0).mono ?_; rintro e w1 ⟨rfl, hb1⟩))
     exact ⟨rfl, rfl, hfin.out _ (hb0.trans (hb1.mono hb0.size))⟩
   ·rw [if_neg hbad]
    have hz1 : ¬ (d : Int) < 1 := by omega
    have hz2 : ¬ (128 : Int) < (d : Int) := by omega
    clear hbad
    have hq2 := hq
    obtain ⟨R, hRe⟩ : ∃ R, R = parseR (bB).data.toList := ⟨_, rfl⟩
    unfold valR
    rw [← hRe]
    rw [← hRe] at hpz
    cases R with
    | error n =>
     have hn45 := parseR_err hRe.symm
     have hn0 : ¬ n = 0 := by omega
     have hn0b : (n == 0) = false := beq_eq_false_iff_ne.2 hn0
     have hn0c : (n != 0) = true := bne_iff_ne.2 hn0
     replace hRe := hide hRe
     replace hpz := hide (fun W => show Calls Tryz.prog 91 #[.string (bB)] W fun e w' => e = .returned (.tuple #[.agg #[.int .u64 0, .int .u64 0], .int .i64 n]) ∧ Below W.heap.size W w' from hpz W)
     clear hn45
     go_enter Tryz.func71, Tryz.ntmps71
     go_wp2_with (first | (go_at_call 89; refine hCt.out.mono ?_; rintro e w0 ⟨rfl, hb0⟩) | (go_at_call 90; refine (hPu.out _ hb0).mono ?_; rintro e w1 ⟨rfl, hb1⟩) | (go_at_call 91; refine (hpz.out _).mono ?_; rintro e w2 ⟨rfl, hb2⟩))
     have hb01 := hb0.trans (hb1.mono hb0.size)
     exact ⟨rfl, rfl, hfin.out _ ((hb01.trans (hb2.mono hb01.size)).alloc (Nat.le_trans hb01.size hb2.size) _)⟩
    | ok n =>
     have hnl := parseR_lt hRe.symm
     replace hRe := hide hRe
     have hF := fitN_nat (d) n
     obtain ⟨nh, hnh⟩ : ∃ nh, nh = ((n / 18446744073709551616 : Nat) : Int) := ⟨_, rfl⟩
     obtain ⟨nl, hnl2⟩ : ∃ nl, nl = ((n % 18446744073709551616 : Nat) : Int) := ⟨_, rfl⟩
     have u1 : u64 nh := ⟨by omega, by unfold two128 at hnl; omega⟩
     have u2 : u64 nl := ⟨by omega, by omega⟩
     rw [← hnh, ← hnl2] at hF
     replace hpz := hide (fun W => show Calls Tryz.prog 91 #[.string (bB)] W fun e w' => e = .returned (.tuple #[.agg #[.int .u64 nh, .int .u64 nl], .int .i64 0]) ∧ Below W.heap.size W w' from by rw [hnh, hnl2]; exact hpz W)
     have hFt := hide (fun W => fits_all nh nl ((d : Nat) : Int) W ⟨u1, u2⟩)
     rw [hF] at hFt
     have hend := hide (show numE (.ok (d, n)) = .returned (.tuple #[.int .i64 ((d : Nat) : Int), .agg #[.int .u64 nh, .int .u64 nl]]) from by rw [hnh, hnl2]; rfl)
     clear u1 u2 hnh hnl2 hF hnl
     obtain ⟨ft, hft⟩ : ∃ ft, ft = decide (n < 2 ^ (d)) := ⟨_, rfl⟩
     rw [← hft] at hFt
     replace hft := hide hft
     cases ft with
     | false =>
      rw [show valX d true (.ok n) = if true && !decide (n < 2 ^ d) then .error 5 else .ok (d, n) from rfl, ← hft.out]
      go_enter Tryz.func71, Tryz.ntmps71
      go_wp2_with (first | (go_at_call 89; refine hCt.out.mono ?_; rintro e w0 ⟨rfl, hb0⟩) | (go_at_call 90; refine (hPu.out _ hb0).mono ?_; rintro e w1 ⟨rfl, hb1⟩) | (go_at_call 91; refine (hpz.out _).mono ?_; rintro e w2 ⟨rfl, hb2⟩; obtain ⟨w3, hw3, hs3, hb3, hc3, hf3⟩ := box1 w2 #[.int .u64 nh, .int .u64 nl] 62; have x0 := hc3 0; have x1 := hc3 1; have hl3 : w2.heap.size < w3.heap.size := (by omega); replace hs3 := hide hs3; simp at x0 x1; have hb01 := hb0.trans (hb1.mono hb0.size); have hb02 := hb01.trans (hb2.mono hb01.size); have hb04 := hb02.trans (hb3.mono hb02.size)) | (go_at_call 92; refine (hFt.out _).mono ?_; rintro e w4 ⟨rfl, hb4⟩))
      exact ⟨rfl, rfl, hfin.out _ (hb04.trans (hb4.mono hb04.size))⟩
     | true =>
      rw [show valX d true (.ok n) = if true && !decide (n < 2 ^ d) then .error 5 else .ok (d, n) from rfl, ← hft.out]
      rw [if_neg (by simp), hend.out]
      go_enter Tryz.func71, Tryz.ntmps71
      go_upto_region 17 with (first | (go_at_call 89; refine hCt.out.mono ?_; rintro e w0 ⟨rfl, hb0⟩) | (go_at_call 90; refine (hPu.out _ hb0).mono ?_; rintro e w1 ⟨rfl, hb1⟩) | (go_at_call 91; refine (hpz.out _).mono ?_; rintro e w2 ⟨rfl, hb2⟩; obtain ⟨w3, hw3, hs3, hb3, hc3, hf3⟩ := box1 w2 #[.int .u64 nh, .int .u64 nl] 62; have x0 := hc3 0; have x1 := hc3 1; have hl3 : w2.heap.size < w3.heap.size := (by omega); replace hs3 := hide hs3; simp at x0 x1; have hb01 := hb0.trans (hb1.mono hb0.size); have hb02 := hb01.trans (hb2.mono hb01.size); have hb04 := hb02.trans (hb3.mono hb02.size)) | (go_at_call 92; refine (hFt.out _).mono ?_; rintro e w4 ⟨rfl, hb4⟩))
      have hb05 := hb04.trans (hb4.mono hb04.size)
      obtain ⟨ql, q0, q1, e0, e1⟩ := hq.out.below hb05 hla
      have kb4 := bcell' hb4
      have y0 := (kb4.1 _ 0 hl3).trans x0
      have y1 := (kb4.1 _ 1 hl3).trans x1
      have hl4 := Nat.lt_of_lt_of_le hl3 hb4.size
      have hfx := hide (hfin.out _ hb05)
      clear kb4 hb0 hb1 hb2 hb3 hb4 hb01 hb02 hb04 hb05 hc3 hf3 x0 x1
      go_region
      all_goals
       go_wp2
       exact bodyPost_ret (v := .tuple #[.int .i64 _, .agg #[.int .u64 nh, .int .u64 nl]]) (by simp [results, Tryz.results71, go_sem, q0, q1, ql]) rfl ⟨rfl, (by first | exact (below_set2 hfx.out (Nat.le_refl _) _ _).drew | exact below_set2 hfx.out (Nat.le_refl _) _ _)⟩
 ·have hlz : (3 : Int) < (aB.size : Int) := by omega
  clear hsz has
  have hPu := hide (fun W hW => (hP W hW).mono fun e w' h => (⟨by
   obtain ⟨⟨n, er, he, h1⟩, -⟩ := h
   rcases h1 with ⟨-, rfl⟩ | ⟨-, T, N, rfl⟩
   ·exact ⟨n, .inl he⟩
   ·exact ⟨n, .inr ⟨T, N, he⟩⟩, h.2⟩ : (∃ (n : Nat), e = .returned (.tuple #[.int .u64 n, .nilIface]) ∨ ∃ (T : TypeId) (N : Nat), e = .returned (.tuple #[.int .u64 n, .iface T (.pointer (some ⟨N, 0, none⟩))])) ∧ Below W.heap.size W w'))
  rw [if_neg (by simp; omega)]
  clear hP hi hlen hpz
  go_enter Tryz.func71, Tryz.ntmps71
  go_wp2_with (first | (go_at_call 89; refine hCt.out.mono ?_; rintro e w0 ⟨rfl, hb0⟩) | (go_at_call 90; refine (hPu.out _ hb0).mono ?_; rintro e w1 ⟨⟨un, rfl | ⟨T, N, rfl⟩⟩, hb1⟩))
  all_goals
   exact ⟨rfl, rfl, hfin.out _ (hb0.trans (hb1.mono hb0.size))⟩
theorem number_any (s : ByteArray) (w : World) (hs : s.size ≤ 2000000) (hascii : ∀ c ∈ s.data.toList, c.toNat < 128) (h0 : digB (s.data.toList.headD 0) = true) (hV : VarS w) :
  Calls Tryz.prog 71 #[.string s] w fun e w' => e = numE (numR s.data.toList) ∧ Below w.heap.size w w' := by
 rcases indexByte_nat s.data.toList 119 with hidx | ⟨i, hidx, hil⟩
 ·exact number_thin s w hs hascii hV hidx
 ·refine number_wide s w hs hascii hV i hidx ?_
  cases hl : s.data.toList with
  | nil => rw [hl] at hil; simp at hil
  | cons c r =>
   cases i with
   | zero =>
    exfalso
    rw [hl] at h0 hidx
    unfold Lib.indexByte at hidx
    by_cases hc : (c == 119) = true
    ·have : c = 119 := by simpa using hc
     subst this
     exact absurd (show digB 119 = true from h0) (by decide)
    ·rw [if_neg hc] at hidx
     have := Lib.indexByte_ge r 119
     split at hidx <;> simp_all <;> omega
   | succ i => simp
end Go.Proofs.YtbjokgnnklcbcaaGreatDoor

import Derived.Test.YtbjokgnnklcbcaaGreatDoorTpr26
import Derived.Test.YtbjokgnnklcbcaaGreatDoorTpr27
import Derived.Test.YtbjokgnnklcbcaaGreatDoorTpr09
import Derived.Orders
import Derived.Test.YtbjokgnnklcbcaaGreatDoorTpr12
import Derived.Deep.DeepCutAuto
import Derived.Deep.CutBlock
set_option linter.all false
/-! Layer 3, the document's: marks. -/
namespace Go.Proofs.YtbjokgnnklcbcaaGreatDoor
open Go.RowKit
def markArr : List ByteArray := [⟨#[38, 38, 38]⟩, ⟨#[61, 61]⟩, ⟨#[33, 61]⟩, ⟨#[60, 61]⟩, ⟨#[62, 61]⟩, ⟨#[60, 60]⟩, ⟨#[62, 62]⟩, ⟨#[38, 38]⟩, ⟨#[124, 124]⟩, ⟨#[43, 43]⟩, ⟨#[45, 62]⟩]
def shortB : ByteArray := ⟨#[123, 125, 40, 41, 91, 93, 59, 58, 44, 61, 60, 62, 43, 45, 38, 124, 94, 126, 33, 46, 47]⟩
theorem markArr_len : markArr.length = 11 := rfl
theorem markArr_get : ∀ k : Fin 11, longMarks[k.val]? = some ((markArr[k.val]'(k.isLt)).data.toList) ∧ (markArr[k.val]'(k.isLt)).size ≤ 3 := by decide +kernel
theorem markArr_sl (w : World) (t : TypeId) : Sl 1 rStr (w.alloc (.cells (markArr.map Value.string).toArray t)) (w.heap.size + 1) (some ⟨w.heap.size, 0, none⟩) markArr :=
 Sl.new1 markArr Value.string t (by decide) fun x hx => ⟨rfl, by
  have : ∀ x ∈ markArr, x.size ≤ 3 := by decide +kernel
  have := this x hx
  simp [maxLen]; omega⟩
theorem index_mem : ∀ (l : List UInt8) (c : UInt8), 0 ≤ Lib.indexByte l c ↔ c ∈ l
 | [], c => by simp [Lib.indexByte]
 | b :: l, c => by
  have ih := index_mem l c
  have hge := Lib.indexByte_ge l c
  unfold Lib.indexByte
  by_cases hb : b = c
  ·simp [hb]
  ·have hb' : (b == c) = false := by simpa using hb
   have hcb : c ≠ b := fun h => hb h.symm
   rw [hb']
   simp only [Bool.false_eq_true, if_false, List.mem_cons, hcb, false_or]
   rw [← ih]
   by_cases hn : Lib.indexByte l c = -1
   ·simp [hn]
   ·have : (Lib.indexByte l c == -1) = false := by simpa using hn
    rw [this]
    simp only [Bool.false_eq_true, if_false]
    omega
theorem prefix_sub (s p : ByteArray) (k : Nat) (hk : k ≤ s.size) : Lib.hasPrefix (s.data.toList.drop k) p.data.toList = true ↔ k + p.size ≤ s.size ∧ (s.extract k (k + p.size)).toList = p.toList := by
 rw [ByteArray.toList_eq, ByteArray.toList_eq, ext_toList]
 have e : (s.data.toList.take (k + p.size)).drop k = (s.data.toList.drop k).take p.size := by rw [List.drop_take]; congr 1; omega
 rw [e]
 unfold Lib.hasPrefix
 rw [List.isPrefixOf_iff_prefix, List.prefix_iff_eq_take]
 have hp := Lib.size_eq p
 have hs := Lib.size_eq s
 constructor
 ·intro h
  refine ⟨?_, by rw [hp]; exact h.symm⟩
  have := congrArg List.length h
  rw [List.length_take, List.length_drop] at this
  omega
 ·rintro ⟨-, h⟩
  rw [← hp]; exact h.symm
theorem index_str (b : ByteArray) (j : Nat) (h : j < b.size) (hb : b.size ≤ 9223372036854775807) (W : World) : (Instr.index 9 (.string b) (.int .i64 (j : Int))).run Tryz.prog W = .ok (.int .u8 ((b[j].toNat : Nat) : Int)) W := by
 have h1 : (j : Int) < (b.size : Int) := by omega
 go_simp
set_option maxRecDepth 100000 in
set_option maxHeartbeats 4000000 in
theorem mark03_any (s : ByteArray) (k0 : Nat) (w : World) (hk0 : k0 < s.size) (hs : s.size ≤ 4611686018427387904) :
  Calls Tryz.prog 78 #[.string s, .int .i64 (k0 : Int)] w fun e w' => e = .returned (.int .i64 (((markL (s.data.toList.drop k0)).length : Nat) : Int)) ∧ Below w.heap.size w w' := by
 have hl : s.size ≤ 9223372036854775807 := by omega
 go_enter Tryz.func78, Tryz.ntmps78
 go_wp2
 have hb1 : Below w.heap.size w (w.alloc (.cells (markArr.map Value.string).toArray 9)) := (Below.refl _ _).alloc (Nat.le_refl _) _
 have hsl := markArr_sl w 9
 change Code.wp _ _ _ _ (w.alloc (.cells (markArr.map Value.string).toArray 9))
 generalize w.alloc (.cells (markArr.map Value.string).toArray 9) = w1 at hb1 hsl ⊢
 replace hb1 := hide hb1
 go_loopw [6] (fun i wr => ∃ k : Nat, k ≤ 11 ∧ i = .int .i64 k ∧ (∃ n, wr = w1.drewN n) ∧ Hid (markF (longMarks.drop k) (s.data.toList.drop k0) = markL (s.data.toList.drop k0))) (fun i _ => 11 - (intOf i).toNat)
 case atStart => exact ⟨0, Nat.zero_le _, rfl, ⟨0, rfl⟩, hide rfl⟩
 case round =>
  obtain ⟨k, hk, rfl, ⟨dn, rfl⟩, hc⟩ := hrel
  by_cases hlt : k < 11
  ·obtain ⟨b, o, hA, hb, hcell, -⟩ := hsl.str (i := k) (by rw [markArr_len]; exact hlt)
   obtain ⟨rfl, rfl⟩ : b = w.heap.size ∧ o = 0 := by simp at hA; omega
   obtain ⟨hg1, hg2⟩ := markArr_get ⟨k, hlt⟩
   simp only at hg1 hg2
   have hst : markF (longMarks.drop k) (s.data.toList.drop k0) = if Lib.hasPrefix (s.data.toList.drop k0) (markArr[k]'(by rw [markArr_len]; exact hlt)).data.toList then (markArr[k]'(by rw [markArr_len]; exact hlt)).data.toList else markF (longMarks.drop (k + 1)) (s.data.toList.drop k0) := by
    have hkl : k < longMarks.length := by show k < 11; exact hlt
    rw [List.drop_eq_getElem_cons hkl]
    have e : longMarks[k] = (markArr[k]'(by rw [markArr_len]; exact hlt)).data.toList := by
     rw [List.getElem?_eq_getElem hkl] at hg1
     injection hg1
    rw [e]
    rfl
   simp only [Nat.zero_add] at hcell
   clear hA hsl hg1
   have hkz : (k : Int) < 11 := by omega
   have hpf := prefix_sub s (markArr[k]'(by rw [markArr_len]; exact hlt)) k0 (Nat.le_of_lt hk0)
   have hsz := Lib.size_eq (markArr[k]'(by rw [markArr_len]; exact hlt))
   generalize (markArr[k]'(by rw [markArr_len]; exact hlt)) = kk at hcell hst hpf hg2 hsz
   rw [hst] at hc
   replace hst := hide hst
   replace hsz := hide hsz
   obtain ⟨z, hz⟩ : ∃ z, z = k0 + kk.size := ⟨_, rfl⟩
   rw [← hz] at hpf
   have hwr : IntKind.i64.wrap ((k0 : Int) + (kk.size : Int)) = (z : Int) := by rw [IntWalk.i64_in _ (by omega), hz]; omega
   have hk1 : (0 : Int) ≤ (k0 : Int) := by omega
   have hk2 : (k0 : Int) ≤ (z : Int) := by omega
   have hkk : kk.size ≤ 9223372036854775807 := by omega
   by_cases h1 : z ≤ s.size
   ·have h1z : (z : Int) ≤ (s.size : Int) := by omega
    replace hz := hide hz
    by_cases h2 : (s.extract k0 z).toList = kk.toList
    ·have h2b : ((s.extract k0 z).toList == kk.toList) = true := beq_iff_eq.2 h2
     have hv := hide (show (((markL (s.data.toList.drop k0)).length : Nat) : Int) = (kk.size : Int) from by rw [← hc.out, if_pos (hpf.2 ⟨h1, h2⟩), hsz.out])
     clear hpf hc h2
     go_wp2_with fail
     go_quiet (fail)
     go_wp2
     go_ret
     rw [hv.out]
     exact ⟨rfl, below_drewN (below_drewN hb1.out _) _⟩
    ·have h2b : ((s.extract k0 z).toList == kk.toList) = false := beq_eq_false_iff_ne.2 h2
     have hp0 : ¬ Lib.hasPrefix (s.data.toList.drop k0) kk.data.toList = true := fun h => h2 (hpf.1 h).2
     have hv := hide (show markF (longMarks.drop (k + 1)) (s.data.toList.drop k0) = markL (s.data.toList.drop k0) from by rw [← hc.out, if_neg hp0])
     clear hpf hc h2 hp0
     go_wp2_with fail
     go_quiet (fail)
     go_wp2
     go_roundw
     case rel => exact ⟨k + 1, by omega, by go_num, ⟨dn + nq, by simp⟩, hv⟩
     case measure => simp [intOf]; omega
   ·have h1z : ¬ (z : Int) ≤ (s.size : Int) := by omega
    have h1b : decide ((z : Int) ≤ (s.size : Int)) = false := decide_eq_false h1z
    have h1c : decide (z ≤ s.size) = false := decide_eq_false h1
    have hp0 : ¬ Lib.hasPrefix (s.data.toList.drop k0) kk.data.toList = true := fun h => h1 (hpf.1 h).1
    have hv := hide (show markF (longMarks.drop (k + 1)) (s.data.toList.drop k0) = markL (s.data.toList.drop k0) from by rw [← hc.out, if_neg hp0])
    replace hz := hide hz
    clear hpf hc hp0
    go_wp2_with fail
    go_quiet (fail)
    go_wp2
    go_roundw
    case rel => exact ⟨k + 1, by omega, by go_num, ⟨dn + nq, by simp⟩, hv⟩
    case measure => simp [intOf]; omega
  ·obtain rfl : k = 11 := by omega
   have hlen : 0 < (s.data.toList.drop k0).length := by rw [List.length_drop, ← Lib.size_eq]; omega
   have hdc := drop_cons s hk0
   have hend : markL (s.data.toList.drop k0) = if s[k0] ∈ shortMarks then (s.data.toList.drop k0).take 1 else [] := by
    rw [← hc.out]
    show (if 0 ≤ Lib.indexByte shortMarks ((s.data.toList.drop k0).headD 0) then (s.data.toList.drop k0).take 1 else []) = _
    rw [hdc, List.headD_cons]
    by_cases hm : s[k0] ∈ shortMarks
    ·rw [if_pos hm, if_pos ((index_mem _ _).2 hm)]
    ·rw [if_neg hm, if_neg (fun h => hm ((index_mem _ _).1 h))]
   have hk1 : (0 : Int) ≤ (k0 : Int) := by omega
   have hk2 : (k0 : Int) < (s.size : Int) := by omega
   obtain ⟨c, hcc⟩ : ∃ c : UInt8, c = s[k0] := ⟨_, rfl⟩
   have hix : ∀ W, (Instr.index 9 (.string s) (.int .i64 (k0 : Int))).run Tryz.prog W = .ok (.int .u8 ((c.toNat : Nat) : Int)) W := fun W => by rw [hcc]; exact index_str s k0 hk0 hl W
   have hlen1 : ((s.data.toList.drop k0).take 1).length = 1 := by rw [List.length_take]; omega
   have hv := hide (show (((markL (s.data.toList.drop k0)).length : Nat) : Int) = if c ∈ shortMarks then 1 else 0 from by
    rw [hend, ← hcc]
    split
    ·rw [hlen1]; rfl
    ·rfl)
   replace hcc := hide hcc
   clear hend hlen hdc hlen1 hc hsl
   go_wp2
   go_loopw [9] (fun i wr => ∃ j : Nat, j ≤ 21 ∧ i = .int .i64 j ∧ (∃ n, wr = w1.drewN n) ∧ Hid (c ∉ shortMarks.take j)) (fun i _ => 21 - (intOf i).toNat)
   case atStart => exact ⟨0, Nat.zero_le _, rfl, ⟨dn, rfl⟩, hide (by simp)⟩
   case round =>
    obtain ⟨j, hj, rfl, ⟨dm, rfl⟩, hn⟩ := hrel
    by_cases hjl : j < 21
    ·have hjl' : j < shortMarks.length := hjl
     have hjz : (j : Int) < 21 := by omega
     have hj0 : (0 : Int) ≤ (j : Int) := by omega
     have hcj := u8_iff shortMarks[j] c
     have hix2 : ∀ W, (Instr.index 9 (.string ⟨#[123, 125, 40, 41, 91, 93, 59, 58, 44, 61, 60, 62, 43, 45, 38, 124, 94, 126, 33, 46, 47]⟩) (.int .i64 (j : Int))).run Tryz.prog W = .ok (.int .u8 ((shortMarks[j].toNat : Nat) : Int)) W := fun W => index_str shortB j hjl (by decide) W
     by_cases hq : shortMarks[j] = c
     ·have hin : c ∈ shortMarks := by rw [← hq]; exact List.getElem_mem _
      have hv1 := hide (show (((markL (s.data.toList.drop k0)).length : Nat) : Int) = 1 from by rw [hv.out, if_pos hin])
      have hqb : (((shortMarks[j].toNat : Nat) : Int) == ((c.toNat : Nat) : Int)) = true := beq_iff_eq.2 (hcj.1 hq)
      clear hcj hq hin
      generalize ((shortMarks[j].toNat : Nat) : Int) = x at hqb hix2
      generalize ((c.toNat : Nat) : Int) = y at hqb hix
      go_wp2_with fail
      go_quiet (fail)
      go_wp2
      go_ret
      rw [hv1.out]
      exact ⟨rfl, below_drewN (below_drewN hb1.out _) _⟩
     ·have hqb : (((shortMarks[j].toNat : Nat) : Int) == ((c.toNat : Nat) : Int)) = false := beq_eq_false_iff_ne.2 fun h => hq (hcj.2 h)
      have hn2 := hide (notMem_take_snoc hjl' hn.out hq)
      clear hcj hq
      generalize ((shortMarks[j].toNat : Nat) : Int) = x at hqb hix2
      generalize ((c.toNat : Nat) : Int) = y at hqb hix
      go_wp2_with fail
      go_quiet (fail)
      go_wp2
      go_roundw
      case rel => exact ⟨j + 1, by omega, by go_num, ⟨dm + nq, by simp⟩, hn2⟩
      case measure => simp [intOf]; omega
    ·obtain rfl : j = 21 := by omega
     have hno : c ∉ shortMarks := by have := hn.out; rw [List.take_of_length_le (by decide)] at this; exact this
     have hv1 := hide (show (((markL (s.data.toList.drop k0)).length : Nat) : Int) = 0 from by rw [hv.out, if_neg hno])
     go_wp2
     go_ret
     rw [hv1.out]
     exact ⟨rfl, below_drewN hb1.out _⟩
end Go.Proofs.YtbjokgnnklcbcaaGreatDoor
/-! A region that draws its order, by what holds whichever operations have come up: eight operations. -/
namespace Go.Proofs.YtbjokgnnklcbcaaGreatDoor
open Go.RowKit
/-- How many have not come up. -/
def left8 (l : Array Bool) : Nat := (l.toList.filter (!·)).length
theorem left8_set {l : Array Bool} {i : Nat} (hi : l[i]? = some false) : left8 (l.setIfInBounds i true) + 1 = left8 l := by
 obtain ⟨l⟩ := l
 unfold left8
 simp only [List.setIfInBounds_toArray]
 simp at hi
 induction l generalizing i with
 | nil => simp at hi
 | cons x l ih =>
  cases i with
  | zero => simp at hi; subst hi; simp
  | succ i => 
   have := ih (i := i) (by simpa using hi)
   cases x <;> simp [List.filter_cons] at this ⊢ <;> omega
theorem ready_false {md : Region.Mode} {ops : Array Oper} {l : Array Bool} {i : Nat} (h : i ∈ Region.ready md ops l) (hs : l.size = ops.size) : l[i]? = some false := by
 unfold Region.ready at h
 obtain ⟨h1, h2⟩ := List.mem_filter.1 h
 have hi : i < l.size := by rw [hs]; exact List.mem_range.1 h1
 simp only [Bool.and_eq_true, Bool.not_eq_true'] at h2
 have := h2.1
 rw [Array.getD_eq_getD_getElem?, Array.getElem?_eq_getElem hi] at this
 rw [Array.getElem?_eq_getElem hi]
 simpa using this
theorem wpAny_inv {P : Program} {md : Region.Mode} {ops : Array Oper} {Q : Exit → Act → World → Prop} (Inv : Array Bool → Act → World → Prop)
  (hstep : ∀ l a w i, l.size = ops.size → i ∈ Region.ready md ops l → Inv l a w → wpOp P ops Q i (Inv (l.setIfInBounds i true)) a w)
  (hend : ∀ l a w, l.size = ops.size → Region.ready md ops l = [] → Inv l a w → Q .normal a w) :
  ∀ (fuel : Nat) (l : Array Bool) (a : Act) (w : World), l.size = ops.size → left8 l ≤ fuel → Inv l a w → wpAny P md ops Q fuel l a w := by
 intro fuel
 induction fuel with
 | zero =>
  intro l a w hs hl hI
  have hr : Region.ready md ops l = [] := by
   rcases hq : Region.ready md ops l with _ | ⟨i, r⟩
   ·rfl
   ·have hi : i ∈ Region.ready md ops l := by rw [hq]; exact List.mem_cons_self
    have := left8_set (ready_false hi hs)
    omega
  exact ⟨hr, hend l a w hs hr hI⟩
 | succ fuel ih =>
  intro l a w hs hl hI
  refine ⟨fun hr => hend l a w hs hr hI, fun i hi => ?_⟩
  have h1 := left8_set (ready_false hi hs)
  exact wpOp_mono (fun a' w' h' => ih _ a' w' (by simpa using hs) (by omega) h') (hstep l a w i hs hi hI)
end Go.Proofs.YtbjokgnnklcbcaaGreatDoor
/-! Plain: numbers compared by their bits. -/
namespace Go.Proofs.YtbjokgnnklcbcaaGreatDoor
open Go.RowKit
def cmpN (x y : Int) : Int := if y < x then 1 else if x < y then -1 else 0
def btI (hi lo : Int) (t : Nat) : Bool := if t < 64 then bitI lo t else bitI hi (t - 64)
theorem btI_nat (H L t : Nat) (hL : L < 2 ^ 64) : btI (H : Int) (L : Int) t = (2 ^ 64 * H + L).testBit t := by
 rw [Nat.testBit_two_pow_mul_add _ hL]
 unfold btI
 split <;> rw [bitI_nat]
theorem rowC_bt (hi lo : Int) {t : Nat} (ht : t < 128) : (rowC hi lo 64)[t]? = some (.bool (btI hi lo t)) := by
 rw [rowC_get _ _ _ _ ht]
 unfold rowV btI
 by_cases h : t < 64
 ·simp [h]
 ·simp [h, show t < 64 + 64 by omega]
theorem num_nat {hi lo : Int} (h : u64 hi) (g : u64 lo) : ∃ H L : Nat, hi = H ∧ lo = L ∧ H < 2 ^ 64 ∧ L < 2 ^ 64 := by
 obtain ⟨h1, h2⟩ := h
 obtain ⟨g1, g2⟩ := g
 exact ⟨hi.toNat, lo.toNat, by omega, by omega, by omega, by omega⟩
theorem big_bit {H L : Nat} (hH : H < 2 ^ 64) (hL : L < 2 ^ 64) {t : Nat} (ht : 128 ≤ t) : (2 ^ 64 * H + L).testBit t = false := by
 refine Nat.testBit_lt_two_pow (Nat.lt_of_lt_of_le (m := 2 ^ 128) (by omega) (Nat.pow_le_pow_right (by omega) ht))
theorem lt_of_bits {x y t : Nat} (hx : x.testBit t = false) (hy : y.testBit t = true) (h : ∀ s, t < s → x.testBit s = y.testBit s) : x < y := by
 have h1 : x / 2 ^ (t + 1) = y / 2 ^ (t + 1) := Nat.eq_of_testBit_eq fun i => by
  rw [Nat.testBit_div_two_pow, Nat.testBit_div_two_pow]
  exact h _ (by omega)
 rw [Nat.testBit_eq_decide_div_mod_eq] at hx hy
 simp only [decide_eq_false_iff_not, decide_eq_true_eq] at hx hy
 rw [Nat.pow_succ, ← Nat.div_div_eq_div_mul, ← Nat.div_div_eq_div_mul] at h1
 rcases Nat.lt_or_ge x y with h2 | h2
 ·exact h2
 ·have := Nat.div_le_div_right (c := 2 ^ t) h2
  generalize x / 2 ^ t = a at *
  generalize y / 2 ^ t = b at *
  omega
theorem cmp_lt' {H L H' L' : Nat} (hH : H < 2 ^ 64) (hL : L < 2 ^ 64) (hH' : H' < 2 ^ 64) (hL' : L' < 2 ^ 64) {t : Nat} (ha : btI H L t = false) (hb : btI H' L' t = true)
  (hab : ∀ s, t < s → s < 128 → btI H L s = btI H' L' s) : 2 ^ 64 * H + L < 2 ^ 64 * H' + L' := by
 rw [btI_nat _ _ _ hL] at ha
 rw [btI_nat _ _ _ hL'] at hb
 refine lt_of_bits ha hb fun s hs => ?_
 by_cases h : s < 128
 ·have := hab s hs h
  rwa [btI_nat _ _ _ hL, btI_nat _ _ _ hL'] at this
 ·rw [big_bit hH hL (by omega), big_bit hH' hL' (by omega)]
theorem cmp_one {h1 l1 h2 l2 : Int} (u1 : u64 h1) (u2 : u64 l1) (u3 : u64 h2) (u4 : u64 l2) {t : Nat} (ha : btI h1 l1 t = true) (hb : btI h2 l2 t = false)
  (hab : ∀ s, t < s → s < 128 → btI h1 l1 s = btI h2 l2 s) : cmpN (h1 * 18446744073709551616 + l1) (h2 * 18446744073709551616 + l2) = 1 := by
 obtain ⟨H, L, rfl, rfl, a1, a2⟩ := num_nat u1 u2
 obtain ⟨H', L', rfl, rfl, b1, b2⟩ := num_nat u3 u4
 have := cmp_lt' b1 b2 a1 a2 hb ha (fun s hs hs' => (hab s hs hs').symm)
 unfold cmpN
 rw [if_pos (by omega)]
theorem cmp_neg {h1 l1 h2 l2 : Int} (u1 : u64 h1) (u2 : u64 l1) (u3 : u64 h2) (u4 : u64 l2) {t : Nat} (ha : btI h1 l1 t = false) (hb : btI h2 l2 t = true)
  (hab : ∀ s, t < s → s < 128 → btI h1 l1 s = btI h2 l2 s) : cmpN (h1 * 18446744073709551616 + l1) (h2 * 18446744073709551616 + l2) = -1 := by
 obtain ⟨H, L, rfl, rfl, a1, a2⟩ := num_nat u1 u2
 obtain ⟨H', L', rfl, rfl, b1, b2⟩ := num_nat u3 u4
 have := cmp_lt' a1 a2 b1 b2 ha hb hab
 unfold cmpN
 rw [if_neg (by omega), if_pos (by omega)]
theorem cmp_zero {h1 l1 h2 l2 : Int} (u1 : u64 h1) (u2 : u64 l1) (u3 : u64 h2) (u4 : u64 l2)
  (hab : ∀ s, s < 128 → btI h1 l1 s = btI h2 l2 s) : cmpN (h1 * 18446744073709551616 + l1) (h2 * 18446744073709551616 + l2) = 0 := by
 obtain ⟨H, L, rfl, rfl, a1, a2⟩ := num_nat u1 u2
 obtain ⟨H', L', rfl, rfl, b1, b2⟩ := num_nat u3 u4
 have : 2 ^ 64 * H + L = 2 ^ 64 * H' + L' := Nat.eq_of_testBit_eq fun s => by
  by_cases h : s < 128
  ·have := hab s h
   rwa [btI_nat _ _ _ a2, btI_nat _ _ _ b2] at this
  ·rw [big_bit a1 a2 (by omega), big_bit b1 b2 (by omega)]
 unfold cmpN
 rw [if_neg (by omega), if_neg (by omega)]
end Go.Proofs.YtbjokgnnklcbcaaGreatDoor
/-! The document's numbers: compared. -/
namespace Go.Proofs.YtbjokgnnklcbcaaGreatDoor
open Go.RowKit
attribute [local go_sem ↓] load_eq store_eq
theorem wpOp_k {P : Program} {ops : Array Oper} {Q : Exit → Act → World → Prop} {i : Nat} {a : Act} {w : World} {K' : Act → World → Prop} (h : ∀ K : Act → World → Prop, (∀ a w, K' a w → K a w) → wpOp P ops Q i K a w) : wpOp P ops Q i K' a w := h K' fun _ _ h => h
def cmpAct (x y : Value) (n : Nat) (s5 s6 s8 s9 s10 s11 : Value) : Act :=
 { tmps := #[x, y, .pointer (some ⟨n, 0, none⟩), .pointer (some ⟨n + 1, 0, none⟩), .int .i64 0, s5, s6, undef, s8, s9, s10, s11, undef, undef, undef, undef, undef, undef, undef, undef, undef, undef, undef, undef, undef, undef, undef, undef, undef, undef, undef, undef, undef, undef], defers := [] }
/-- What holds when those operations have come up that are listed. -/
structure CmpL (x y : Value) (ra rb : Array Value) (n : Nat) (wb : World) (l0 l1 l2 l3 l4 l5 l6 l7 : Bool) (s5 s6 s8 s9 s10 s11 : Value) (g5 g6 : Nat) (w : World) : Prop where
 hb : Below wb.heap.size wb w
 i0 : l0 = true → s8 = x
 i1 : l1 = true → s9 = .agg ra
 i2 : l2 = true → s10 = y
 i3 : l3 = true → s11 = .agg rb
 i4 : l4 = true → s5 = .pointer (some ⟨g5, 0, none⟩) ∧ wb.heap.size ≤ g5 ∧ w.heap[g5]? = some (.cells (if l6 then ra else Tryz.zeroCells193) 193 (0, 0))
 i5 : l5 = true → s6 = .pointer (some ⟨g6, 0, none⟩) ∧ wb.heap.size ≤ g6 ∧ w.heap[g6]? = some (.cells (if l7 then rb else Tryz.zeroCells193) 193 (0, 0))
 i6 : l4 = true → l5 = true → g5 ≠ g6
 i7 : l6 = true → l4 = true
 i8 : l7 = true → l5 = true
def CmpInv (x y : Value) (ra rb : Array Value) (n : Nat) (wb : World) (l : Array Bool) (a : Act) (w : World) : Prop :=
 ∃ l0 l1 l2 l3 l4 l5 l6 l7 s5 s6 s8 s9 s10 s11 g5 g6, l = #[l0, l1, l2, l3, l4, l5, l6, l7] ∧ a = cmpAct x y n s5 s6 s8 s9 s10 s11 ∧ CmpL x y ra rb n wb l0 l1 l2 l3 l4 l5 l6 l7 s5 s6 s8 s9 s10 s11 g5 g6 w
theorem ready_nil {r : List Nat} {c : Bool} (hr : r = []) (h : (!r.isEmpty || c) = true) : c = true := by subst hr; simpa using h
theorem heap_lt {w : World} {g : Nat} {o : Obj} (h : w.heap[g]? = some o) : g < w.heap.size := (Array.getElem?_eq_some_iff.1 h).1
theorem CmpL.mono {x y : Value} {ra rb : Array Value} {n : Nat} {wb w w' : World} {l0 l1 l2 l3 l4 l5 l6 l7 : Bool} {s5 s6 s8 s9 s10 s11 : Value} {g5 g6 : Nat} (h : CmpL x y ra rb n wb l0 l1 l2 l3 l4 l5 l6 l7 s5 s6 s8 s9 s10 s11 g5 g6 w) (hb : Below w.heap.size w w') : CmpL x y ra rb n wb l0 l1 l2 l3 l4 l5 l6 l7 s5 s6 s8 s9 s10 s11 g5 g6 w' :=
 { h with
  hb := h.hb.trans (hb.mono h.hb.size)
  i4 := fun q => ⟨(h.i4 q).1, (h.i4 q).2.1, (hb.block _ (heap_lt (h.i4 q).2.2)).trans (h.i4 q).2.2⟩
  i5 := fun q => ⟨(h.i5 q).1, (h.i5 q).2.1, (hb.block _ (heap_lt (h.i5 q).2.2)).trans (h.i5 q).2.2⟩ }
set_option maxRecDepth 100000 in
set_option maxHeartbeats 1000000 in
theorem cmp01_any (h1 l1 h2 l2 : Int) (w : World) (u1 : u64 h1) (u2 : u64 l1) (u3 : u64 h2) (u4 : u64 l2) : Calls Tryz.prog 168 #[.agg #[.int .u64 h1, .int .u64 l1], .agg #[.int .u64 h2, .int .u64 l2]] w fun e w' => e = .returned (.int .i64 (cmpN (h1 * 18446744073709551616 + l1) (h2 * 18446744073709551616 + l2))) ∧ Below w.heap.size w w' := by
 have hG := hide (fun t a b c => cmp_one (t := t) u1 u2 u3 u4 a b c)
 have hL := hide (fun t a b c => cmp_neg (t := t) u1 u2 u3 u4 a b c)
 have hE := hide (fun a => cmp_zero u1 u2 u3 u4 a)
 have hBa := hide (fun W => bits01_any h1 l1 W u1 u2)
 have hBb := hide (fun W => bits01_any h2 l2 W u3 u4)
 obtain ⟨wa, hwa, hsa, hba, hca, -⟩ := box1 w #[.int .u64 h1, .int .u64 l1] 62
 obtain ⟨wb, hwb, hsb, hbb, hcb, -⟩ := box1 wa #[.int .u64 h2, .int .u64 l2] 62
 have y0 : wb.cell? ⟨w.heap.size, 0, none⟩ = some (.int .u64 h1) := (hbb.cell (p := ⟨w.heap.size, 0, none⟩) (by show w.heap.size < _; omega)).trans (hca 0)
 have y1 : wb.cell? ⟨w.heap.size, 1, none⟩ = some (.int .u64 l1) := (hbb.cell (p := ⟨w.heap.size, 1, none⟩) (by show w.heap.size < _; omega)).trans (hca 1)
 have y2 : wb.cell? ⟨w.heap.size + 1, 0, none⟩ = some (.int .u64 h2) := by rw [← hsa]; exact hcb 0
 have y3 : wb.cell? ⟨w.heap.size + 1, 1, none⟩ = some (.int .u64 l2) := by rw [← hsa]; exact hcb 1
 have hbw := hide (hba.trans (hbb.mono (by omega)))
 have hzb : w.heap.size + 1 < wb.heap.size := by omega
 clear hca hcb hba hbb
 go_enter Tryz.func168, Tryz.ntmps168
 go_upto_region 1 with (fail)
 go_cut [5, 6, 8, 9, 10, 11] (fun s5 s6 s8 s9 s10 s11 wx => ∃ g5 g6 : Nat, s5 = .pointer (some ⟨g5, 0, none⟩) ∧ s6 = .pointer (some ⟨g6, 0, none⟩) ∧ Hid (wx.heap[g5]? = some (.cells (rowC h1 l1 64) 193 (0, 0))) ∧ Hid (wx.heap[g6]? = some (.cells (rowC h2 l2 64) 193 (0, 0))) ∧ Hid (Below wb.heap.size wb wx))
 case first =>
  refine wp_region_any (by kernel_rfl) ?_
  refine wpAny_inv (CmpInv (.agg #[.int .u64 h1, .int .u64 l1]) (.agg #[.int .u64 h2, .int .u64 l2]) (rowC h1 l1 64) (rowC h2 l2 64) w.heap.size wb) ?_ ?_ _ _ _ _ (by simp) (by decide) ?_
  ·intro l a w1 i hs hi hI
   obtain ⟨l0, l1', l2', l3, l4, l5, l6, l7, s5, s6, s8, s9, s10, s11, g5, g6, rfl, rfl, hI⟩ := hI
   have hw0 : ((i == 0) || ((i == 1) && l0) || (i == 2) || ((i == 3) && l1' && l2') || ((i == 4) && !l4) || ((i == 5) && !l5) || ((i == 6) && l4 && l1' && !l6) || ((i == 7) && l5 && l3 && !l7)) = true := by
    refine (List.all_eq_true (p := fun i => ((i == 0) || ((i == 1) && l0) || (i == 2) || ((i == 3) && l1' && l2') || ((i == 4) && !l4) || ((i == 5) && !l5) || ((i == 6) && l4 && l1' && !l6) || ((i == 7) && l5 && l3 && !l7)))).1 ?_ i hi
    clear hs hI hi
    revert l0 l1' l2' l3 l4 l5 l6 l7
    decide +kernel
   have hw : (i = 0) ∨ (i = 1 ∧ l0 = true) ∨ (i = 2) ∨ (i = 3 ∧ l1' = true ∧ l2' = true) ∨ (i = 4 ∧ l4 = false) ∨ (i = 5 ∧ l5 = false) ∨ (i = 6 ∧ l4 = true ∧ l1' = true ∧ l6 = false) ∨ (i = 7 ∧ l5 = true ∧ l3 = true ∧ l7 = false) := by
    simpa [or_assoc, and_assoc] using hw0
   clear hw0
   clear hi hs
   have kb := bcell' hI.hb
   have hzw := hI.hb.size
   refine wpOp_k fun K hK => ?_
   replace hK := hide hK
   replace hI := hide hI
   rcases hw with rfl | ⟨rfl, q⟩ | rfl | ⟨rfl, q, q'⟩ | ⟨rfl, q⟩ | ⟨rfl, q⟩ | ⟨rfl, q, q', q''⟩ | ⟨rfl, q, q', q''⟩
   ·skip
    unfold wpOp cmpAct
    simp only [List.getElem?_toArray, List.getElem?_cons_zero, List.getElem?_cons_succ]
    rw [if_pos (by rfl)]
    refine Or.inl ?_
    go_wp2
    exact hK.out _ _ ⟨true, l1', l2', l3, l4, l5, l6, l7, s5, s6, _, s9, s10, s11, g5, g6, rfl, rfl, { hI.out with i0 := fun _ => rfl }⟩
   ·obtain rfl := hI.out.i0 q
    unfold wpOp cmpAct
    simp only [List.getElem?_toArray, List.getElem?_cons_zero, List.getElem?_cons_succ]
    rw [if_pos (by rfl)]
    refine Or.inl ?_
    go_wp2_with fail
    refine (hBa.out _).mono ?_
    rintro e w2 ⟨rfl, hb2⟩
    exact hK.out _ _ ⟨l0, true, l2', l3, l4, l5, l6, l7, s5, s6, _, _, s10, s11, g5, g6, rfl, rfl, { hI.out.mono hb2 with i1 := fun _ => rfl }⟩
   ·skip
    unfold wpOp cmpAct
    simp only [List.getElem?_toArray, List.getElem?_cons_zero, List.getElem?_cons_succ]
    rw [if_pos (by rfl)]
    refine Or.inl ?_
    go_wp2
    exact hK.out _ _ ⟨l0, l1', true, l3, l4, l5, l6, l7, s5, s6, s8, s9, _, s11, g5, g6, rfl, rfl, { hI.out with i2 := fun _ => rfl }⟩
   ·obtain rfl := hI.out.i2 q'
    unfold wpOp cmpAct
    simp only [List.getElem?_toArray, List.getElem?_cons_zero, List.getElem?_cons_succ]
    rw [if_pos (by rfl)]
    refine Or.inl ?_
    go_wp2_with fail
    refine (hBb.out _).mono ?_
    rintro e w2 ⟨rfl, hb2⟩
    exact hK.out _ _ ⟨l0, l1', l2', true, l4, l5, l6, l7, s5, s6, s8, s9, _, _, g5, g6, rfl, rfl, { hI.out.mono hb2 with i3 := fun _ => rfl }⟩
   ·skip
    unfold wpOp cmpAct
    simp only [List.getElem?_toArray, List.getElem?_cons_zero, List.getElem?_cons_succ]
    rw [if_pos (by rfl)]
    refine Or.inl ?_
    go_wp2
    have hb2 : Below w1.heap.size w1 (w1.alloc (.cells Tryz.zeroCells193 193)) := (Below.refl _ _).alloc (Nat.le_refl _) _
    have h6 : l6 = false := by
     cases h : l6 with
     | false => rfl
     | true => have := hI.out.i7 h; rw [q] at this; cases this
    refine hK.out _ _ ⟨l0, l1', l2', l3, true, l5, l6, l7, _, s6, s8, s9, s10, s11, w1.heap.size, g6, rfl, rfl, { hI.out.mono hb2 with i4 := fun _ => ⟨rfl, hzw, ?_⟩, i6 := fun _ h5 => ?_, i7 := fun _ => rfl }⟩
    ·rw [h6]; exact heap_alloc_last w1 _
    ·have := heap_lt (hI.out.i5 h5).2.2; omega
   ·skip
    unfold wpOp cmpAct
    simp only [List.getElem?_toArray, List.getElem?_cons_zero, List.getElem?_cons_succ]
    rw [if_pos (by rfl)]
    refine Or.inl ?_
    go_wp2
    have hb2 : Below w1.heap.size w1 (w1.alloc (.cells Tryz.zeroCells193 193)) := (Below.refl _ _).alloc (Nat.le_refl _) _
    have h7 : l7 = false := by
     cases h : l7 with
     | false => rfl
     | true => have := hI.out.i8 h; rw [q] at this; cases this
    refine hK.out _ _ ⟨l0, l1', l2', l3, l4, true, l6, l7, s5, _, s8, s9, s10, s11, g5, w1.heap.size, rfl, rfl, { hI.out.mono hb2 with i5 := fun _ => ⟨rfl, hzw, ?_⟩, i6 := fun h4 _ => ?_, i8 := fun _ => rfl }⟩
    ·rw [h7]; exact heap_alloc_last w1 _
    ·have := heap_lt (hI.out.i4 h4).2.2; omega
   ·obtain ⟨rfl, hg, hh⟩ := hI.out.i4 q
    obtain rfl := hI.out.i1 q'
    rw [q''] at hh
    have hst := storeG_run hh rfl (rowC_size _ _ _) (rowC_one h1 l1 64)
    have hat := setRow_at (C' := rowC h1 l1 64) hh
    unfold wpOp cmpAct
    simp only [List.getElem?_toArray, List.getElem?_cons_zero, List.getElem?_cons_succ]
    rw [if_pos (by rfl)]
    refine Or.inl ?_
    go_wp2
    refine hK.out _ _ ⟨l0, l1', l2', l3, l4, l5, true, l7, _, s6, s8, _, s10, s11, g5, g6, rfl, rfl, { hI.out with hb := below_setRow hI.out.hb hg _, i4 := fun _ => ⟨rfl, hg, hat⟩, i5 := fun h5 => ⟨(hI.out.i5 h5).1, (hI.out.i5 h5).2.1, ?_⟩, i7 := fun _ => q }⟩
    rw [setRow_far (Ne.symm (hI.out.i6 q h5))]
    exact (hI.out.i5 h5).2.2
   ·obtain ⟨rfl, hg, hh⟩ := hI.out.i5 q
    obtain rfl := hI.out.i3 q'
    rw [q''] at hh
    have hst := storeG_run hh rfl (rowC_size _ _ _) (rowC_one h2 l2 64)
    have hat := setRow_at (C' := rowC h2 l2 64) hh
    unfold wpOp cmpAct
    simp only [List.getElem?_toArray, List.getElem?_cons_zero, List.getElem?_cons_succ]
    rw [if_pos (by rfl)]
    refine Or.inl ?_
    go_wp2
    refine hK.out _ _ ⟨l0, l1', l2', l3, l4, l5, l6, true, s5, _, s8, s9, s10, _, g5, g6, rfl, rfl, { hI.out with hb := below_setRow hI.out.hb hg _, i5 := fun _ => ⟨rfl, hg, hat⟩, i4 := fun h4 => ⟨(hI.out.i4 h4).1, (hI.out.i4 h4).2.1, ?_⟩, i8 := fun _ => q }⟩
    rw [setRow_far (hI.out.i6 h4 q)]
    exact (hI.out.i4 h4).2.2
  ·intro l a w1 hs hr hI
   obtain ⟨l0, l1', l2', l3, l4, l5, l6, l7, s5, s6, s8, s9, s10, s11, g5, g6, rfl, rfl, hI⟩ := hI
   have hw : l4 = true ∧ l5 = true ∧ l6 = true ∧ l7 = true := by
    have hq : (l4 && l5 && l6 && l7) = true := by
     refine ready_nil hr ?_
     clear hs hI hr
     revert l0 l1' l2' l3 l4 l5 l6 l7
     decide +kernel
    simpa [and_assoc] using hq
   obtain ⟨rfl, rfl, rfl, rfl⟩ := hw
   obtain ⟨rfl, hg5, hh5⟩ := hI.i4 rfl
   obtain ⟨rfl, hg6, hh6⟩ := hI.i5 rfl
   simp only [cmpAct]
   go_wp2
   go_meet
   exact ⟨g5, g6, rfl, rfl, hide hh5, hide hh6, hide hI.hb⟩
  ·exact ⟨false, false, false, false, false, false, false, false, undef, undef, undef, undef, undef, undef, 0, 1, rfl, rfl, ⟨⟨rfl, rfl, rfl, Nat.le_refl _, fun _ _ => rfl⟩, nofun, nofun, nofun, nofun, nofun, nofun, nofun, nofun, nofun⟩⟩
 case rest =>
  obtain ⟨g5, g6, rfl, rfl, hg5, hg6, hbx⟩ := hcut
  have hlt5 := heap_lt hg5.out
  have hlt6 := heap_lt hg6.out
  have hBw := hide (hbw.out.trans (hbx.out.mono (by omega)))
  have c5 := hide (fun t (ht : t < 128) => (heap_cells hg5.out t).trans (rowC_bt h1 l1 ht))
  have c6 := hide (fun t (ht : t < 128) => (heap_cells hg6.out t).trans (rowC_bt h2 l2 ht))
  clear hg5 hg6 hbx hbw hBa hBb y0 y1 y2 y3 hwa hwb hsa hsb hzb u1 u2 u3 u4
  go_wp2
  obtain ⟨wx, rfl⟩ : ∃ wx : World, wx = wc := ⟨_, rfl⟩
  go_loopw [7] (fun i wr => ∃ j : Nat, j ≤ 128 ∧ (∃ i' : Int, i = .int .i64 i' ∧ i' = (j : Int) - 1) ∧ wr = wx ∧ Hid (∀ s, j ≤ s → s < 128 → btI h1 l1 s = btI h2 l2 s)) (fun i _ => (intOf i + 1).toNat)
  case atStart => exact ⟨128, Nat.le_refl _, ⟨_, rfl, by decide⟩, rfl, hide (fun s h g => by omega)⟩
  case round =>
   obtain ⟨j, hj, ⟨i', rfl, hi'⟩, rfl, heq⟩ := hrel
   cases j with
   | succ t =>
    obtain rfl : i' = (t : Int) := by omega
    clear hi'
    have htz : (0 : Int) ≤ (t : Int) := by omega
    have ht128 : (t : Int) < 128 := by omega
    have d5 := c5.out t (by omega)
    have d6 := c6.out t (by omega)
    have hab := fun s (h : t < s) (h' : s < 128) => heq.out s h h'
    cases e1 : btI h1 l1 t with
    | true =>
     cases e2 : btI h2 l2 t with
     | true =>
      have hn := hide (fun s (h : t ≤ s) (h' : s < 128) => show btI h1 l1 s = btI h2 l2 s from by
       rcases Nat.eq_or_lt_of_le h with rfl | h
       ·rw [e1, e2]
       ·exact hab s h h')
      rw [e1] at d5
      rw [e2] at d6
      clear hab e1 e2
      go_wp2
      go_roundw
      case rel => exact ⟨t, by omega, ⟨_, rfl, rfl⟩, by first | rfl | trivial, hn⟩
      case measure => simp [intOf]
     | false =>
      have hv := hide (hG.out t e1 e2 hab)
      rw [e1] at d5
      rw [e2] at d6
      clear hab e1 e2
      go_wp2
      go_ret
      exact ⟨by rw [hv.out]; rfl, hBw.out⟩
    | false =>
     cases e2 : btI h2 l2 t with
     | true =>
      have hv := hide (hL.out t e1 e2 hab)
      rw [e1] at d5
      rw [e2] at d6
      clear hab e1 e2
      go_wp2
      go_ret
      exact ⟨by rw [hv.out]; rfl, hBw.out⟩
     | false =>
      have hn := hide (fun s (h : t ≤ s) (h' : s < 128) => show btI h1 l1 s = btI h2 l2 s from by
       rcases Nat.eq_or_lt_of_le h with rfl | h
       ·rw [e1, e2]
       ·exact hab s h h')
      rw [e1] at d5
      rw [e2] at d6
      clear hab e1 e2
      go_wp2
      go_roundw
      case rel => exact ⟨t, by omega, ⟨_, rfl, rfl⟩, by first | rfl | trivial, hn⟩
      case measure => simp [intOf]
   | zero =>
    obtain rfl : i' = -1 := by omega
    have hv := hide (hE.out fun s h => heq.out s (Nat.zero_le _) h)
    clear heq hi' hj
    go_wp2
    go_ret
    exact ⟨by rw [hv.out]; rfl, hBw.out⟩
end Go.Proofs.YtbjokgnnklcbcaaGreatDoor

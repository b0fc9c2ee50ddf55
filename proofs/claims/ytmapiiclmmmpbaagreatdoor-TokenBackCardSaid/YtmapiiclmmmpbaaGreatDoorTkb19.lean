import Derived.Test.YtmapiiclmmmpbaaGreatDoorTkb03
import Derived.Test.YtmapiiclmmmpbaaGreatDoorTkb18
import Derived.Test.YtmapiiclmmmpbaaGreatDoorTkb11
import Derived.Orders
set_option linter.all false
/-! Layer 3, the document's: marks. -/
namespace Go.Proofs.YtmapiiclmmmpbaaGreatDoor
open Go.RowKit
def markArr : List ByteArray := [⟨#[38, 38, 38]⟩, ⟨#[61, 61]⟩, ⟨#[33, 61]⟩, ⟨#[60, 61]⟩, ⟨#[62, 61]⟩, ⟨#[60, 60]⟩, ⟨#[62, 62]⟩, ⟨#[38, 38]⟩, ⟨#[124, 124]⟩, ⟨#[43, 43]⟩, ⟨#[45, 62]⟩]
def shortB : ByteArray := ⟨#[123, 125, 40, 41, 91, 93, 59, 58, 44, 61, 60, 62, 43, 45, 38, 124, 94, 126, 33, 46, 47]⟩
theorem markArr_len : markArr.length = 11 := rfl
theorem markArr_get : ∀ k : Fin 11, longMarks[k.val]? = some ((markArr[k.val]'(k.isLt)).data.toList) ∧ (markArr[k.val]'(k.isLt)).size ≤ 3 := by decide +kernel
theorem markArr_sl (w : World) (t : TypeId) : Sl 1 rStr (w.alloc (.cells (markArr.map Value.string).toArray t)) (w.heap.size + 1) (some ⟨w.heap.size, 0, none⟩) markArr :=
 Sl.new1 markArr Value.string t (by decide) fun x hx => ⟨rfl, by
  have : ∀ x ∈ markArr, x.size ≤ 3 := by decide +kernel
  have := this x hx
  simp [maxLen]; omega⟩
theorem index_mem : ∀ (l : List UInt8) (c : UInt8), 0 ≤ Lib.indexByte l c ↔ c ∈ l
 | [], c => by simp [Lib.indexByte]
 | b :: l, c => by
  have ih := index_mem l c
  have hge := Lib.indexByte_ge l c
  unfold Lib.indexByte
  by_cases hb : b = c
  ·simp [hb]
  ·have hb' : (b == c) = false := by simpa using hb
   have hcb : c ≠ b := fun h => hb h.symm
   rw [hb']
   simp only [Bool.false_eq_true, if_false, List.mem_cons, hcb, false_or]
   rw [← ih]
   by_cases hn : Lib.indexByte l c = -1
   ·simp [hn]
   ·have : (Lib.indexByte l c == -1) = false := by simpa using hn
    rw [this]
    simp only [Bool.false_eq_true, if_false]
    omega
theorem prefix_sub (s p : ByteArray) (k : Nat) (hk : k ≤ s.size) : Lib.hasPrefix (s.data.toList.drop k) p.data.toList = true ↔ k + p.size ≤ s.size ∧ (s.extract k (k + p.size)).toList = p.toList := by
 rw [ByteArray.toList_eq, ByteArray.toList_eq, ext_toList]
 have e : (s.data.toList.take (k + p.size)).drop k = (s.data.toList.drop k).take p.size := by rw [List.drop_take]; congr 1; omega
 rw [e]
 unfold Lib.hasPrefix
 rw [List.isPrefixOf_iff_prefix, List.prefix_iff_eq_take]
 have hp := Lib.size_eq p
 have hs := Lib.size_eq s
 constructor
 ·intro h
  refine ⟨?_, by rw [hp]; exact h.symm⟩
  have := congrArg List.length h
  rw [List.length_take, List.length_drop] at this
  omega
 ·rintro ⟨-, h⟩
  rw [← hp]; exact h.symm
theorem index_str (b : ByteArray) (j : Nat) (h : j < b.size) (hb : b.size ≤ 9223372036854775807) (W : World) : (Instr.index 9 (.string b) (.int .i64 (j : Int))).run Tryz.prog W = .ok (.int .u8 ((b[j].toNat : Nat) : Int)) W := by
 have h1 : (j : Int) < (b.size : Int) := by omega
 go_simp
set_option maxRecDepth 100000 in
set_option maxHeartbeats 4000000 in
theorem mark03_any (s : ByteArray) (k0 : Nat) (w : World) (hk0 : k0 < s.size) (hs : s.size ≤ 4611686018427387904) :
  Calls Tryz.prog 36 #[.string s, .int .i64 (k0 : Int)] w fun e w' => e = .returned (.int .i64 (((markL (s.data.toList.drop k0)).length : Nat) : Int)) ∧ Below w.heap.size w w' := by
 have hl : s.size ≤ 9223372036854775807 := by omega
 go_enter Tryz.func36, Tryz.ntmps36
 go_wp2
 have hb1 : Below w.heap.size w (w.alloc (.cells (markArr.map Value.string).toArray 9)) := (Below.refl _ _).alloc (Nat.le_refl _) _
 have hsl := markArr_sl w 9
 change Code.wp _ _ _ _ (w.alloc (.cells (markArr.map Value.string).toArray 9))
 generalize w.alloc (.cells (markArr.map Value.string).toArray 9) = w1 at hb1 hsl ⊢
 replace hb1 := hide hb1
 go_loopw [6] (fun i wr => ∃ k : Nat, k ≤ 11 ∧ i = .int .i64 k ∧ (∃ n, wr = w1.drewN n) ∧ Hid (markF (longMarks.drop k) (s.data.toList.drop k0) = markL (s.data.toList.drop k0))) (fun i _ => 11 - (intOf i).toNat)
 case atStart => exact ⟨0, Nat.zero_le _, rfl, ⟨0, rfl⟩, hide rfl⟩
 case round =>
  obtain ⟨k, hk, rfl, ⟨dn, rfl⟩, hc⟩ := hrel
  by_cases hlt : k < 11
  ·obtain ⟨b, o, hA, hb, hcell, -⟩ := hsl.str (i := k) (by rw [markArr_len]; exact hlt)
   obtain ⟨rfl, rfl⟩ : b = w.heap.size ∧ o = 0 := by simp at hA; omega
   obtain ⟨hg1, hg2⟩ := markArr_get ⟨k, hlt⟩
   simp only at hg1 hg2
   have hst : markF (longMarks.drop k) (s.data.toList.drop k0) = if Lib.hasPrefix (s.data.toList.drop k0) (markArr[k]'(by rw [markArr_len]; exact hlt)).data.toList then (markArr[k]'(by rw [markArr_len]; exact hlt)).data.toList else markF (longMarks.drop (k + 1)) (s.data.toList.drop k0) := by
    have hkl : k < longMarks.length := by show k < 11; exact hlt
    rw [List.drop_eq_getElem_cons hkl]
    have e : longMarks[k] = (markArr[k]'(by rw [markArr_len]; exact hlt)).data.toList := by
     rw [List.getElem?_eq_getElem hkl] at hg1
     injection hg1
    rw [e]
    rfl
   simp only [Nat.zero_add] at hcell
   clear hA hsl hg1
   have hkz : (k : Int) < 11 := by omega
   have hpf := prefix_sub s (markArr[k]'(by rw [markArr_len]; exact hlt)) k0 (Nat.le_of_lt hk0)
   have hsz := Lib.size_eq (markArr[k]'(by rw [markArr_len]; exact hlt))
   generalize (markArr[k]'(by rw [markArr_len]; exact hlt)) = kk at hcell hst hpf hg2 hsz
   rw [hst] at hc
   replace hst := hide hst
   replace hsz := hide hsz
   obtain ⟨z, hz⟩ : ∃ z, z = k0 + kk.size := ⟨_, rfl⟩
   rw [← hz] at hpf
   have hwr : IntKind.i64.wrap ((k0 : Int) + (kk.size : Int)) = (z : Int) := by rw [IntWalk.i64_in _ (by omega), hz]; omega
   have hk1 : (0 : Int) ≤ (k0 : Int) := by omega
   have hk2 : (k0 : Int) ≤ (z : Int) := by omega
   have hkk : kk.size ≤ 9223372036854775807 := by omega
   by_cases h1 : z ≤ s.size
   ·have h1z : (z : Int) ≤ (s.size : Int) := by omega
    replace hz := hide hz
    by_cases h2 : (s.extract k0 z).toList = kk.toList
    ·have h2b : ((s.extract k0 z).toList == kk.toList) = true := beq_iff_eq.2 h2
     have hv := hide (show (((markL (s.data.toList.drop k0)).length : Nat) : Int) = (kk.size : Int) from by rw [← hc.out, if_pos (hpf.2 ⟨h1, h2⟩), hsz.out])
     clear hpf hc h2
     go_wp2_with fail
     go_quiet (fail)
     go_wp2
     go_ret
     rw [hv.out]
     exact ⟨rfl, below_drewN (below_drewN hb1.out _) _⟩
    ·have h2b : ((s.extract k0 z).toList == kk.toList) = false := beq_eq_false_iff_ne.2 h2
     have hp0 : ¬ Lib.hasPrefix (s.data.toList.drop k0) kk.data.toList = true := fun h => h2 (hpf.1 h).2
     have hv := hide (show markF (longMarks.drop (k + 1)) (s.data.toList.drop k0) = markL (s.data.toList.drop k0) from by rw [← hc.out, if_neg hp0])
     clear hpf hc h2 hp0
     go_wp2_with fail
     go_quiet (fail)
     go_wp2
     go_roundw
     case rel => exact ⟨k + 1, by omega, by go_num, ⟨dn + nq, by simp⟩, hv⟩
     case measure => simp [intOf]; omega
   ·have h1z : ¬ (z : Int) ≤ (s.size : Int) := by omega
    have h1b : decide ((z : Int) ≤ (s.size : Int)) = false := decide_eq_false h1z
    have h1c : decide (z ≤ s.size) = false := decide_eq_false h1
    have hp0 : ¬ Lib.hasPrefix (s.data.toList.drop k0) kk.data.toList = true := fun h => h1 (hpf.1 h).1
    have hv := hide (show markF (longMarks.drop (k + 1)) (s.data.toList.drop k0) = markL (s.data.toList.drop k0) from by rw [← hc.out, if_neg hp0])
    replace hz := hide hz
    clear hpf hc hp0
    go_wp2_with fail
    go_quiet (fail)
    go_wp2
    go_roundw
    case rel => exact ⟨k + 1, by omega, by go_num, ⟨dn + nq, by simp⟩, hv⟩
    case measure => simp [intOf]; omega
  ·obtain rfl : k = 11 := by omega
   have hlen : 0 < (s.data.toList.drop k0).length := by rw [List.length_drop, ← Lib.size_eq]; omega
   have hdc := drop_cons s hk0
   have hend : markL (s.data.toList.drop k0) = if s[k0] ∈ shortMarks then (s.data.toList.drop k0).take 1 else [] := by
    rw [← hc.out]
    show (if 0 ≤ Lib.indexByte shortMarks ((s.data.toList.drop k0).headD 0) then (s.data.toList.drop k0).take 1 else []) = _
    rw [hdc, List.headD_cons]
    by_cases hm : s[k0] ∈ shortMarks
    ·rw [if_pos hm, if_pos ((index_mem _ _).2 hm)]
    ·rw [if_neg hm, if_neg (fun h => hm ((index_mem _ _).1 h))]
   have hk1 : (0 : Int) ≤ (k0 : Int) := by omega
   have hk2 : (k0 : Int) < (s.size : Int) := by omega
   obtain ⟨c, hcc⟩ : ∃ c : UInt8, c = s[k0] := ⟨_, rfl⟩
   have hix : ∀ W, (Instr.index 9 (.string s) (.int .i64 (k0 : Int))).run Tryz.prog W = .ok (.int .u8 ((c.toNat : Nat) : Int)) W := fun W => by rw [hcc]; exact index_str s k0 hk0 hl W
   have hlen1 : ((s.data.toList.drop k0).take 1).length = 1 := by rw [List.length_take]; omega
   have hv := hide (show (((markL (s.data.toList.drop k0)).length : Nat) : Int) = if c ∈ shortMarks then 1 else 0 from by
    rw [hend, ← hcc]
    split
    ·rw [hlen1]; rfl
    ·rfl)
   replace hcc := hide hcc
   clear hend hlen hdc hlen1 hc hsl
   go_wp2
   go_loopw [9] (fun i wr => ∃ j : Nat, j ≤ 21 ∧ i = .int .i64 j ∧ (∃ n, wr = w1.drewN n) ∧ Hid (c ∉ shortMarks.take j)) (fun i _ => 21 - (intOf i).toNat)
   case atStart => exact ⟨0, Nat.zero_le _, rfl, ⟨dn, rfl⟩, hide (by simp)⟩
   case round =>
    obtain ⟨j, hj, rfl, ⟨dm, rfl⟩, hn⟩ := hrel
    by_cases hjl : j < 21
    ·have hjl' : j < shortMarks.length := hjl
     have hjz : (j : Int) < 21 := by omega
     have hj0 : (0 : Int) ≤ (j : Int) := by omega
     have hcj := u8_iff shortMarks[j] c
     have hix2 : ∀ W, (Instr.index 9 (.string ⟨#[123, 125, 40, 41, 91, 93, 59, 58, 44, 61, 60, 62, 43, 45, 38, 124, 94, 126, 33, 46, 47]⟩) (.int .i64 (j : Int))).run Tryz.prog W = .ok (.int .u8 ((shortMarks[j].toNat : Nat) : Int)) W := fun W => index_str shortB j hjl (by decide) W
     by_cases hq : shortMarks[j] = c
     ·have hin : c ∈ shortMarks := by rw [← hq]; exact List.getElem_mem _
      have hv1 := hide (show (((markL (s.data.toList.drop k0)).length : Nat) : Int) = 1 from by rw [hv.out, if_pos hin])
      have hqb : (((shortMarks[j].toNat : Nat) : Int) == ((c.toNat : Nat) : Int)) = true := beq_iff_eq.2 (hcj.1 hq)
      clear hcj hq hin
      generalize ((shortMarks[j].toNat : Nat) : Int) = x at hqb hix2
      generalize ((c.toNat : Nat) : Int) = y at hqb hix
      go_wp2_with fail
      go_quiet (fail)
      go_wp2
      go_ret
      rw [hv1.out]
      exact ⟨rfl, below_drewN (below_drewN hb1.out _) _⟩
     ·have hqb : (((shortMarks[j].toNat : Nat) : Int) == ((c.toNat : Nat) : Int)) = false := beq_eq_false_iff_ne.2 fun h => hq (hcj.2 h)
      have hn2 := hide (notMem_take_snoc hjl' hn.out hq)
      clear hcj hq
      generalize ((shortMarks[j].toNat : Nat) : Int) = x at hqb hix2
      generalize ((c.toNat : Nat) : Int) = y at hqb hix
      go_wp2_with fail
      go_quiet (fail)
      go_wp2
      go_roundw
      case rel => exact ⟨j + 1, by omega, by go_num, ⟨dm + nq, by simp⟩, hn2⟩
      case measure => simp [intOf]; omega
    ·obtain rfl : j = 21 := by omega
     have hno : c ∉ shortMarks := by have := hn.out; rw [List.take_of_length_le (by decide)] at this; exact this
     have hv1 := hide (show (((markL (s.data.toList.drop k0)).length : Nat) : Int) = 0 from by rw [hv.out, if_neg hno])
     go_wp2
     go_ret
     rw [hv1.out]
     exact ⟨rfl, below_drewN hb1.out _⟩
end Go.Proofs.YtmapiiclmmmpbaaGreatDoor
/-! A region that draws its order, by what holds whichever operations have come up: eight operations. -/
namespace Go.Proofs.YtmapiiclmmmpbaaGreatDoor
open Go.RowKit
/-- How many have not come up. -/
def left8 (l : Array Bool) : Nat := (l.toList.filter (!·)).length
theorem left8_set {l : Array Bool} {i : Nat} (hi : l[i]? = some false) : left8 (l.setIfInBounds i true) + 1 = left8 l := by
 obtain ⟨l⟩ := l
 unfold left8
 simp only [List.setIfInBounds_toArray]
 simp at hi
 induction l generalizing i with
 | nil => simp at hi
 | cons x l ih =>
  cases i with
  | zero => simp at hi; subst hi; simp
  | succ i => 
   have := ih (i := i) (by simpa using hi)
   cases x <;> simp [List.filter_cons] at this ⊢ <;> omega
theorem ready_false {md : Region.Mode} {ops : Array Oper} {l : Array Bool} {i : Nat} (h : i ∈ Region.ready md ops l) (hs : l.size = ops.size) : l[i]? = some false := by
 unfold Region.ready at h
 obtain ⟨h1, h2⟩ := List.mem_filter.1 h
 have hi : i < l.size := by rw [hs]; exact List.mem_range.1 h1
 simp only [Bool.and_eq_true, Bool.not_eq_true'] at h2
 have := h2.1
 rw [Array.getD_eq_getD_getElem?, Array.getElem?_eq_getElem hi] at this
 rw [Array.getElem?_eq_getElem hi]
 simpa using this
theorem wpAny_inv {P : Program} {md : Region.Mode} {ops : Array Oper} {Q : Exit → Act → World → Prop} (Inv : Array Bool → Act → World → Prop)
  (hstep : ∀ l a w i, l.size = ops.size → i ∈ Region.ready md ops l → Inv l a w → wpOp P ops Q i (Inv (l.setIfInBounds i true)) a w)
  (hend : ∀ l a w, l.size = ops.size → Region.ready md ops l = [] → Inv l a w → Q .normal a w) :
  ∀ (fuel : Nat) (l : Array Bool) (a : Act) (w : World), l.size = ops.size → left8 l ≤ fuel → Inv l a w → wpAny P md ops Q fuel l a w := by
 intro fuel
 induction fuel with
 | zero =>
  intro l a w hs hl hI
  have hr : Region.ready md ops l = [] := by
   rcases hq : Region.ready md ops l with _ | ⟨i, r⟩
   ·rfl
   ·have hi : i ∈ Region.ready md ops l := by rw [hq]; exact List.mem_cons_self
    have := left8_set (ready_false hi hs)
    omega
  exact ⟨hr, hend l a w hs hr hI⟩
 | succ fuel ih =>
  intro l a w hs hl hI
  refine ⟨fun hr => hend l a w hs hr hI, fun i hi => ?_⟩
  have h1 := left8_set (ready_false hi hs)
  exact wpOp_mono (fun a' w' h' => ih _ a' w' (by simpa using hs) (by omega) h') (hstep l a w i hs hi hI)
end Go.Proofs.YtmapiiclmmmpbaaGreatDoor
/-! Plain: numbers compared by their bits. -/
namespace Go.Proofs.YtmapiiclmmmpbaaGreatDoor
open Go.RowKit
def cmpN (x y : Int) : Int := if y < x then 1 else if x < y then -1 else 0
def btI (hi lo : Int) (t : Nat) : Bool := if t < 64 then bitI lo t else bitI hi (t - 64)
theorem btI_nat (H L t : Nat) (hL : L < 2 ^ 64) : btI (H : Int) (L : Int) t = (2 ^ 64 * H + L).testBit t := by
 rw [Nat.testBit_two_pow_mul_add _ hL]
 unfold btI
 split <;> rw [bitI_nat]
theorem rowC_bt (hi lo : Int) {t : Nat} (ht : t < 128) : (rowC hi lo 64)[t]? = some (.bool (btI hi lo t)) := by
 rw [rowC_get _ _ _ _ ht]
 unfold rowV btI
 by_cases h : t < 64
 ·simp [h]
 ·simp [h, show t < 64 + 64 by omega]
theorem num_nat {hi lo : Int} (h : u64 hi) (g : u64 lo) : ∃ H L : Nat, hi = H ∧ lo = L ∧ H < 2 ^ 64 ∧ L < 2 ^ 64 := by
 obtain ⟨h1, h2⟩ := h
 obtain ⟨g1, g2⟩ := g
 exact ⟨hi.toNat, lo.toNat, by omega, by omega, by omega, by omega⟩
theorem big_bit {H L : Nat} (hH : H < 2 ^ 64) (hL : L < 2 ^ 64) {t : Nat} (ht : 128 ≤ t) : (2 ^ 64 * H + L).testBit t = false := by
 refine Nat.testBit_lt_two_pow (Nat.lt_of_lt_of_le (m := 2 ^ 128) (by omega) (Nat.pow_le_pow_right (by omega) ht))
theorem lt_of_bits {x y t : Nat} (hx : x.testBit t = false) (hy : y.testBit t = true) (h : ∀ s, t < s → x.testBit s = y.testBit s) : x < y := by
 have h1 : x / 2 ^ (t + 1) = y / 2 ^ (t + 1) := Nat.eq_of_testBit_eq fun i => by
  rw [Nat.testBit_div_two_pow, Nat.testBit_div_two_pow]
  exact h _ (by omega)
 rw [Nat.testBit_eq_decide_div_mod_eq] at hx hy
 simp only [decide_eq_false_iff_not, decide_eq_true_eq] at hx hy
 rw [Nat.pow_succ, ← Nat.div_div_eq_div_mul, ← Nat.div_div_eq_div_mul] at h1
 rcases Nat.lt_or_ge x y with h2 | h2
 ·exact h2
 ·have := Nat.div_le_div_right (c := 2 ^ t) h2
  generalize x / 2 ^ t = a at *
  generalize y / 2 ^ t = b at *
  omega
theorem cmp_lt' {H L H' L' : Nat} (hH : H < 2 ^ 64) (hL : L < 2 ^ 64) (hH' : H' < 2 ^ 64) (hL' : L' < 2 ^ 64) {t : Nat} (ha : btI H L t = false) (hb : btI H' L' t = true)
  (hab : ∀ s, t < s → s < 128 → btI H L s = btI H' L' s) : 2 ^ 64 * H + L < 2 ^ 64 * H' + L' := by
 rw [btI_nat _ _ _ hL] at ha
 rw [btI_nat _ _ _ hL'] at hb
 refine lt_of_bits ha hb fun s hs => ?_
 by_cases h : s < 128
 ·have := hab s hs h
  rwa [btI_nat _ _ _ hL, btI_nat _ _ _ hL'] at this
 ·rw [big_bit hH hL (by omega), big_bit hH' hL' (by omega)]
theorem cmp_one {h1 l1 h2 l2 : Int} (u1 : u64 h1) (u2 : u64 l1) (u3 : u64 h2) (u4 : u64 l2) {t : Nat} (ha : btI h1 l1 t = true) (hb : btI h2 l2 t = false)
  (hab : ∀ s, t < s → s < 128 → btI h1 l1 s = btI h2 l2 s) : cmpN (h1 * 18446744073709551616 + l1) (h2 * 18446744073709551616 + l2) = 1 := by
 obtain ⟨H, L, rfl, rfl, a1, a2⟩ := num_nat u1 u2
 obtain ⟨H', L', rfl, rfl, b1, b2⟩ := num_nat u3 u4
 have := cmp_lt' b1 b2 a1 a2 hb ha (fun s hs hs' => (hab s hs hs').symm)
 unfold cmpN
 rw [if_pos (by omega)]
theorem cmp_neg {h1 l1 h2 l2 : Int} (u1 : u64 h1) (u2 : u64 l1) (u3 : u64 h2) (u4 : u64 l2) {t : Nat} (ha : btI h1 l1 t = false) (hb : btI h2 l2 t = true)
  (hab : ∀ s, t < s → s < 128 → btI h1 l1 s = btI h2 l2 s) : cmpN (h1 * 18446744073709551616 + l1) (h2 * 18446744073709551616 + l2) = -1 := by
 obtain ⟨H, L, rfl, rfl, a1, a2⟩ := num_nat u1 u2
 obtain ⟨H', L', rfl, rfl, b1, b2⟩ := num_nat u3 u4
 have := cmp_lt' a1 a2 b1 b2 ha hb hab
 unfold cmpN
 rw [if_neg (by omega), if_pos (by omega)]
theorem cmp_zero {h1 l1 h2 l2 : Int} (u1 : u64 h1) (u2 : u64 l1) (u3 : u64 h2) (u4 : u64 l2)
  (hab : ∀ s, s < 128 → btI h1 l1 s = btI h2 l2 s) : cmpN (h1 * 18446744073709551616 + l1) (h2 * 18446744073709551616 + l2) = 0 := by
 obtain ⟨H, L, rfl, rfl, a1, a2⟩ := num_nat u1 u2
 obtain ⟨H', L', rfl, rfl, b1, b2⟩ := num_nat u3 u4
 have : 2 ^ 64 * H + L = 2 ^ 64 * H' + L' := Nat.eq_of_testBit_eq fun s => by
  by_cases h : s < 128
  ·have := hab s h
   rwa [btI_nat _ _ _ a2, btI_nat _ _ _ b2] at this
  ·rw [big_bit a1 a2 (by omega), big_bit b1 b2 (by omega)]
 unfold cmpN
 rw [if_neg (by omega), if_neg (by omega)]
end Go.Proofs.YtmapiiclmmmpbaaGreatDoor

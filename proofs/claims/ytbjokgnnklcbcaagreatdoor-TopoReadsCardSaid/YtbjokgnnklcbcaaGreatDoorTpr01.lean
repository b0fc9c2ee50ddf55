import Derived.Lib.IndexMore
import Derived.Lib.IndexLaws
import Derived.Laws.Strings
import Derived.WideShapes
import Derived.Laws.StructEq
import Derived.Lib.Strings
import Derived.Lib.SlTrimSet
import Derived.Lib.Case
import Derived.Lib.IndexBytes
import Derived.Lib.ParseIntB
set_option linter.all false
/-! Plain laws on names and keywords: no program in sight. -/
namespace Go.Proofs.YtbjokgnnklcbcaaGreatDoor
open Go.Lib
def digitB (c : Int) : Bool := decide (48 ≤ c ∧ c ≤ 57)
def letterB (c : Int) : Bool := decide (97 ≤ c ∧ c ≤ 122 ∨ 65 ≤ c ∧ c ≤ 90 ∨ c = 95)
def wordB (c : Int) : Bool := digitB c || letterB c
/-- words, each with a blank behind -/
def spaced : List (List UInt8) → List UInt8
 | [] => []
 | w :: r => w ++ 32 :: spaced r
theorem index_skip (x : List UInt8) : ∀ (w r : List UInt8), (32 : UInt8) ∉ w → (0 ≤ index (w ++ r) (32 :: x) ↔ 0 ≤ index r (32 :: x))
 | [], r, _ => by simp
 | b :: w, r, h => by
  simp only [List.mem_cons, not_or] at h
  have ih := index_skip x w r h.2
  have g := index_ge (w ++ r) (32 :: x)
  have hp : List.isPrefixOf (32 :: x) (b :: (w ++ r)) = false := by
   simp only [List.isPrefixOf, Bool.and_eq_false_iff, beq_eq_false_iff_ne]
   exact .inl h.1
  simp only [List.cons_append, index, hp, Bool.false_eq_true, if_false]
  by_cases e : index (w ++ r) (32 :: x) = -1
  ·simp [e] at ih ⊢; exact ih
  ·simp only [beq_iff_eq, e, if_false]; rw [← ih]; omega
theorem prefix_word : ∀ (s w : List UInt8) (r : List UInt8), (32 : UInt8) ∉ s → (32 : UInt8) ∉ w → (List.isPrefixOf (s ++ [32]) (w ++ 32 :: r) = true ↔ s = w)
 | [], [], r, _, _ => by simp [List.isPrefixOf]
 | [], b :: w, r, _, hw => by
  simp only [List.mem_cons, not_or] at hw
  simp [List.isPrefixOf, hw.1]
 | a :: s, [], r, hs, _ => by
  simp only [List.mem_cons, not_or] at hs
  simp [List.isPrefixOf]
  intro e; exact absurd e.symm hs.1
 | a :: s, b :: w, r, hs, hw => by
  simp only [List.mem_cons, not_or] at hs hw
  have ih := prefix_word s w r hs.2 hw.2
  simp [List.isPrefixOf] at ih ⊢
  intro _; exact ih
theorem spaced_index (s : List UInt8) (hs : (32 : UInt8) ∉ s) (hne : s ≠ []) : ∀ ws : List (List UInt8), (∀ w ∈ ws, (32 : UInt8) ∉ w) →
  (0 ≤ index (32 :: spaced ws) (32 :: (s ++ [32])) ↔ s ∈ ws)
 | [], _ => by
  cases s with
  | nil => exact absurd rfl hne
  | cons a s => simp [spaced, index, List.isPrefixOf]
 | w :: r, hw => by
  have ih := spaced_index s hs hne r (fun x hx => hw x (List.mem_cons_of_mem _ hx))
  have hww := hw w List.mem_cons_self
  have hp := prefix_word s w (spaced r) hs hww
  have hk := index_skip (s ++ [32]) w (32 :: spaced r) hww
  have g := index_ge (w ++ 32 :: spaced r) (32 :: (s ++ [32]))
  have hq : List.isPrefixOf (32 :: (s ++ [32])) (32 :: (w ++ 32 :: spaced r)) = List.isPrefixOf (s ++ [32]) (w ++ 32 :: spaced r) := by simp [List.isPrefixOf]
  simp only [spaced]
  unfold index
  rw [hq]
  by_cases e : s = w
  ·rw [hp.2 e]; simp [e]
  ·have : List.isPrefixOf (s ++ [32]) (w ++ 32 :: spaced r) = false := by
    rw [Bool.eq_false_iff]; exact fun h => e (hp.1 h)
   rw [this]
   simp only [Bool.false_eq_true, if_false, List.mem_cons, e, false_or]
   rw [← ih, ← hk]
   by_cases e2 : index (w ++ 32 :: spaced r) (32 :: (s ++ [32])) = -1
   ·simp [e2]
   ·simp only [beq_iff_eq, e2, if_false]; omega
theorem index_one (s : List UInt8) : 0 ≤ index s [32] ↔ (32 : UInt8) ∈ s := by
 induction s with
 | nil => simp [index]
 | cons b l ih =>
  have g := index_ge l [32]
  by_cases e : b = 32
  ·simp [index, List.isPrefixOf, e]
  ·have e' : ¬ (32 : UInt8) = b := fun h => e h.symm
   simp only [index, List.isPrefixOf, Bool.and_true, beq_iff_eq, e', if_false, List.mem_cons, false_or, ← ih]
   by_cases e2 : index l [32] = -1
   ·simp [e2]
   ·simp only [e2, if_false]; omega
def kws : List (List UInt8) := ["header", "metadata", "bit", "parser", "state", "extract", "transition", "select", "accept", "reject", "default", "action", "table", "key", "actions", "exact", "lpm", "ternary", "control", "apply", "if", "else", "drop", "forward", "valid", "invalid", "deparser", "emit", "meta", "port", "isValid", "_"].map fun s => s.toUTF8.data.toList
def kwB (s : ByteArray) : Bool := decide (s.data.toList ∈ kws)
def nameB (s : ByteArray) : Bool := decide (1 ≤ s.size ∧ s.size ≤ 16) && !digitB ((s.data.toList.headD 0).toNat) && !kwB s && s.data.toList.all fun c => wordB c.toNat
theorem kws_blank : ∀ w ∈ kws, (32 : UInt8) ∉ w := by decide +kernel
theorem kws_empty : [] ∉ kws := by decide +kernel
theorem kw_iff (s : List UInt8) (t : List UInt8) (ht : t = 32 :: spaced kws) :
  (s ≠ [] ∧ contains s [32] = false ∧ contains t (32 :: (s ++ [32])) = true) ↔ s ∈ kws := by
 subst ht
 unfold contains
 have h1 := index_one s
 constructor
 ·rintro ⟨hne, hb, hc⟩
  simp only [decide_eq_false_iff_not, decide_eq_true_eq] at hb hc
  exact (spaced_index s (fun h => hb (h1.2 h)) hne kws kws_blank).1 hc
 ·intro h
  have hb := kws_blank s h
  have hne : s ≠ [] := fun e => kws_empty (e ▸ h)
  refine ⟨hne, ?_, ?_⟩
  ·simp only [decide_eq_false_iff_not]; exact fun g => hb (h1.1 g)
  ·simp only [decide_eq_true_eq]; exact (spaced_index s hb hne kws kws_blank).2 h
theorem kwB_empty {s : ByteArray} (h : s.toList = []) : kwB s = false := by
 rw [ByteArray.toList_eq] at h
 simp only [kwB, h, decide_eq_false_iff_not]; exact kws_empty
theorem kwB_blank {s : ByteArray} (hb : contains s.data.toList (ByteArray.mk #[32]).data.toList = true) : kwB s = false := by
 have h1 : (32 : UInt8) ∈ s.data.toList := (index_one _).1 (by simpa [contains] using hb)
 simp only [kwB, decide_eq_false_iff_not]; exact fun h => kws_blank _ h h1
theorem kwB_eq (s : ByteArray) (C : List UInt8) (hC : C = 32 :: spaced kws) (h0 : ¬ s.toList = []) (hb : contains s.data.toList (ByteArray.mk #[32]).data.toList = false) :
  contains C (ByteArray.mk #[32] ++ s ++ ByteArray.mk #[32]).data.toList = kwB s := by
 rw [ByteArray.toList_eq] at h0
 have e : (ByteArray.mk #[32] ++ s ++ ByteArray.mk #[32]).data.toList = 32 :: (s.data.toList ++ [32]) := by simp
 have := kw_iff s.data.toList C hC
 rw [Bool.eq_iff_iff, e, kwB, decide_eq_true_eq, ← this]
 exact ⟨fun h => ⟨h0, hb, h⟩, fun h => h.2.2⟩
def wlenL (l : List UInt8) : Nat := (l.takeWhile fun c => wordB c.toNat).length
theorem wlenL_succ : ∀ (l : List UInt8) (k : Nat) (hk : k < l.length), k ≤ wlenL l → wordB (l[k].toNat : Nat) = true → k + 1 ≤ wlenL l
 | [], k, hk, _, _ => absurd hk (by simp)
 | c :: l, 0, _, _, hw => by simp at hw; simp [wlenL, hw]
 | c :: l, k + 1, hk, hl, hw => by
  by_cases hc : wordB (c.toNat : Nat) = true
  ·have ih := wlenL_succ l k (by simpa using hk) (by simpa [wlenL, hc] using hl) (by simpa using hw)
   simpa [wlenL, hc] using ih
  ·simp [wlenL, hc] at hl
theorem wlenL_stop : ∀ (l : List UInt8) (k : Nat) (hk : k < l.length), k ≤ wlenL l → wordB (l[k].toNat : Nat) = false → wlenL l = k
 | [], k, hk, _, _ => absurd hk (by simp)
 | c :: l, 0, _, _, hw => by simp at hw; simp [wlenL, hw]
 | c :: l, k + 1, hk, hl, hw => by
  by_cases hc : wordB (c.toNat : Nat) = true
  ·have ih := wlenL_stop l k (by simpa using hk) (by simpa [wlenL, hc] using hl) (by simpa using hw)
   simpa [wlenL, hc] using ih
  ·simp [wlenL, hc] at hl
theorem wlenL_le : ∀ l : List UInt8, wlenL l ≤ l.length
 | [] => by simp [wlenL]
 | c :: l => by
  have := wlenL_le l
  by_cases hc : wordB (c.toNat : Nat) = true <;> simp [wlenL, hc] at this ⊢; exact this
theorem wlenL_all : ∀ l : List UInt8, wlenL l = l.length ↔ l.all (fun c => wordB c.toNat) = true
 | [] => by simp [wlenL]
 | c :: l => by
  have := wlenL_all l
  by_cases hc : wordB (c.toNat : Nat) = true <;> simp [wlenL, hc] at this ⊢; exact this
def wlen (s : ByteArray) : Nat := wlenL s.data.toList
theorem wlen_succ {s : ByteArray} {k : Nat} (hk : k < s.size) (h : k ≤ wlen s) (hw : wordB (s[k].toNat : Nat) = true) : k + 1 ≤ wlen s :=
 wlenL_succ _ k (by simpa using hk) h hw
theorem wlen_stop {s : ByteArray} {k : Nat} (hk : k < s.size) (h : k ≤ wlen s) (hw : wordB (s[k].toNat : Nat) = false) : wlen s = k :=
 wlenL_stop _ k (by simpa using hk) h hw
theorem wlen_le (s : ByteArray) : wlen s ≤ s.size := by have := wlenL_le s.data.toList; simpa [wlen] using this
theorem wlen_end {s : ByteArray} {k : Nat} (hk : k ≤ s.size) (hn : ¬ k < s.size) (h : k ≤ wlen s) : wlen s = k := by have := wlen_le s; omega
theorem wlen_self (s : ByteArray) : ((s.extract 0 (wlen s)).toList == s.toList) = s.data.toList.all fun c => wordB c.toNat := by
 have ha := wlenL_all s.data.toList
 have hl := wlen_le s
 rw [Bool.eq_iff_iff, ← ha, ByteArray.toList_eq, ByteArray.toList_eq, beq_iff_eq]
 constructor
 ·intro h
  have := congrArg List.length h
  simp at this
  simp [wlen] at this hl ⊢; omega
 ·intro h
  have e : wlen s = s.size := by simpa [wlen] using h
  rw [e]; simp
theorem isEmpty_false {s : ByteArray} (h : 0 < s.size) : s.toList.isEmpty = false := by
 rw [ByteArray.toList_eq]
 have : s.data.toList.length = s.size := by simp
 cases he : s.data.toList with
 | nil => rw [he] at this; simp at this; omega
 | cons a l => rfl
theorem isEmpty_true {s : ByteArray} (h : ¬ 0 < s.size) : s.toList.isEmpty = true := by
 rw [ByteArray.toList_eq]
 have : s.data.toList.length = s.size := by simp
 cases he : s.data.toList with
 | nil => rfl
 | cons a l => rw [he] at this; simp at this; omega
theorem headD_eq {s : ByteArray} (h : 0 < s.size) : s.data.toList.headD 0 = s[0] := by
 have e : s[0] = s.data.toList[0]'(by simpa using h) := by simp; rfl
 have g : ∀ (l : List UInt8) (hl : 0 < l.length), l.headD 0 = l[0] := fun l hl => by
  cases l with
  | nil => simp at hl
  | cons a l => simp
 rw [e]; exact g _ _
theorem nameB_eq (s : ByteArray) : nameB s = (((s.extract 0 (wlen s)).toList == s.toList) && !s.toList.isEmpty && decide (s.size ≤ 16) && !digitB ((s.data.toList.headD 0).toNat : Nat) && !kwB s) := by
 rw [wlen_self]
 by_cases h0 : 0 < s.size
 ·rw [isEmpty_false h0]
  have : (decide (1 ≤ s.size ∧ s.size ≤ 16)) = decide (s.size ≤ 16) := by simp; omega
  rw [nameB, this]
  cases s.data.toList.all fun c => wordB (c.toNat : Nat) <;> simp
 ·rw [isEmpty_true h0]
  have : (decide (1 ≤ s.size ∧ s.size ≤ 16)) = false := by simp; omega
  rw [nameB, this]; simp
def kwArr : List ByteArray := [⟨#[104, 101, 97, 100, 101, 114]⟩, ⟨#[109, 101, 116, 97, 100, 97, 116, 97]⟩, ⟨#[98, 105, 116]⟩, ⟨#[112, 97, 114, 115, 101, 114]⟩, ⟨#[115, 116, 97, 116, 101]⟩, ⟨#[101, 120, 116, 114, 97, 99, 116]⟩, ⟨#[116, 114, 97, 110, 115, 105, 116, 105, 111, 110]⟩, ⟨#[115, 101, 108, 101, 99, 116]⟩, ⟨#[97, 99, 99, 101, 112, 116]⟩, ⟨#[114, 101, 106, 101, 99, 116]⟩, ⟨#[100, 101, 102, 97, 117, 108, 116]⟩, ⟨#[97, 99, 116, 105, 111, 110]⟩, ⟨#[116, 97, 98, 108, 101]⟩, ⟨#[107, 101, 121]⟩, ⟨#[97, 99, 116, 105, 111, 110, 115]⟩, ⟨#[101, 120, 97, 99, 116]⟩, ⟨#[108, 112, 109]⟩, ⟨#[116, 101, 114, 110, 97, 114, 121]⟩, ⟨#[99, 111, 110, 116, 114, 111, 108]⟩, ⟨#[97, 112, 112, 108, 121]⟩, ⟨#[105, 102]⟩, ⟨#[101, 108, 115, 101]⟩, ⟨#[100, 114, 111, 112]⟩, ⟨#[102, 111, 114, 119, 97, 114, 100]⟩, ⟨#[118, 97, 108, 105, 100]⟩, ⟨#[105, 110, 118, 97, 108, 105, 100]⟩, ⟨#[100, 101, 112, 97, 114, 115, 101, 114]⟩, ⟨#[101, 109, 105, 116]⟩, ⟨#[109, 101, 116, 97]⟩, ⟨#[112, 111, 114, 116]⟩, ⟨#[105, 115, 86, 97, 108, 105, 100]⟩, ⟨#[95]⟩]
theorem kwArr_kws : kwArr.map (fun s => s.data.toList) = kws := by decide +kernel
instance : LawfulBEq ByteArray where
 eq_of_beq {a b} h := by rw [Go.beq_toListBytes, beq_iff_eq, ByteArray.toList_eq, ByteArray.toList_eq] at h; exact Go.WideShapes.bytes_inj h
 rfl {a} := by rw [Go.beq_toListBytes, beq_iff_eq]
theorem kwB_arr (s : ByteArray) : kwB s = decide (s ∈ kwArr) := by
 rw [kwB, Bool.eq_iff_iff, decide_eq_true_eq, decide_eq_true_eq, ← kwArr_kws, List.mem_map]
 exact ⟨fun ⟨a, ha, e⟩ => by rw [← Go.WideShapes.bytes_inj e]; exact ha, fun h => ⟨s, h, rfl⟩⟩
theorem kwArr_size : ∀ s ∈ kwArr, s.size ≤ 16 := by decide +kernel
end Go.Proofs.YtbjokgnnklcbcaaGreatDoor
/-! Plain: what stands between tokens. -/
namespace Go.Proofs.YtbjokgnnklcbcaaGreatDoor
open Go.Lib
theorem ext_toList (s : ByteArray) (a b : Nat) : (s.extract a b).data.toList = (s.data.toList.take b).drop a := by
 simp only [ByteArray.data_extract, Array.toList_extract, List.extract_eq_take_drop]
 rw [List.drop_take]
theorem ext_drop (s : ByteArray) (a : Nat) : (s.extract a s.size).data.toList = s.data.toList.drop a := by
 rw [ext_toList, List.take_of_length_le (by rw [size_eq]; exact Nat.le_refl _)]
theorem ext_take (s : ByteArray) (b : Nat) : (s.extract 0 b).data.toList = s.data.toList.take b := by rw [ext_toList, List.drop_zero]
theorem drop_cons (s : ByteArray) {k : Nat} (h : k < s.size) : s.data.toList.drop k = s[k] :: s.data.toList.drop (k + 1) := by
 rw [List.drop_eq_getElem_cons (by rw [← size_eq]; exact h)]
 rfl
def wsB (c : UInt8) : Bool := c == 32 || c == 9 || c == 10
/-- How many bytes stand ahead of the next token; true: in a comment. -/
def gap : Bool → List UInt8 → Nat
 | _, [] => 0
 | false, c :: r => if wsB c then gap false r + 1 else if c = 47 ∧ r.head? = some 47 then gap true r + 1 else 0
 | true, c :: r => if c = 10 then gap false r + 1 else gap true r + 1
theorem gap_le : ∀ (b : Bool) (l : List UInt8), gap b l ≤ l.length
 | _, [] => by simp [gap]
 | false, c :: r => by
  have h1 := gap_le false r
  have h2 := gap_le true r
  simp only [gap, List.length_cons]
  split
  ·omega
  ·split <;> omega
 | true, c :: r => by
  have h1 := gap_le false r
  have h2 := gap_le true r
  simp only [gap, List.length_cons]
  split <;> omega
theorem gap_open {l : List UInt8} (h : hasPrefix l [47, 47] = true) : gap false l = gap true l := by
 match l, h with
 | [], h => simp [hasPrefix, List.isPrefixOf] at h
 | [a], h => simp [hasPrefix, List.isPrefixOf] at h
 | a :: b :: r, h =>
  simp [hasPrefix, List.isPrefixOf] at h
  obtain ⟨rfl, rfl⟩ := h
  simp [gap, wsB]
theorem gap_none {l : List UInt8} (h : hasPrefix l [47, 47] = false) (hw : ∀ c r, l = c :: r → wsB c = false) : gap false l = 0 := by
 match l, h with
 | [], _ => rfl
 | c :: r, h =>
  have := hw c r rfl
  simp only [gap, this, Bool.false_eq_true, if_false]
  rw [if_neg]
  rintro ⟨rfl, h2⟩
  cases r with
  | nil => simp at h2
  | cons b r => simp at h2; subst h2; simp [hasPrefix, List.isPrefixOf] at h
/-- In a comment up to a line's end. -/
theorem gap_line : ∀ (l : List UInt8), if indexByte l 10 = -1 then gap true l = l.length else ∃ n : Nat, indexByte l 10 = n ∧ n < l.length ∧ gap true l = n + gap false (l.drop n)
 | [] => by simp [indexByte, gap]
 | c :: r => by
  have ih := gap_line r
  have hge := indexByte_ge r 10
  by_cases hc : c = 10
  ·subst hc
   have hi : indexByte (10 :: r) 10 = 0 := by simp [indexByte]
   rw [if_neg (by omega)]
   refine ⟨0, by simp [indexByte], by simp, ?_⟩
   simp [gap, wsB]
  ·have hc' : (c == 10) = false := by simpa using hc
   by_cases hn : indexByte r 10 = -1
   ·rw [if_pos hn] at ih
    have hi : indexByte (c :: r) 10 = -1 := by simp [indexByte, hc', hn]
    rw [if_pos hi]
    simp only [gap, if_neg hc, ih, List.length_cons]
   ·rw [if_neg hn] at ih
    obtain ⟨n, h1, h2, h3⟩ := ih
    have hi : indexByte (c :: r) 10 = (n + 1 : Nat) := by simp [indexByte, hc', hn, h1]
    rw [if_neg (by omega)]
    refine ⟨n + 1, hi, by simp; omega, ?_⟩
    simp only [gap, if_neg hc, h3, List.drop_succ_cons]
    omega
/-- What is left from a place on. -/
def gapAt (s : ByteArray) (k : Nat) : Nat := k + gap false (s.data.toList.drop k)
theorem gapAt_ws {s : ByteArray} {k : Nat} (h : k < s.size) (hw : wsB s[k] = true) : gapAt s (k + 1) = gapAt s k := by
 unfold gapAt
 rw [drop_cons s h]
 simp only [gap, hw, if_true]
 omega
theorem gapAt_end {s : ByteArray} {k : Nat} (h : ¬ k < s.size) : gapAt s k = k := by
 unfold gapAt
 rw [List.drop_eq_nil_of_le (by rw [← size_eq]; omega)]
 rfl
theorem gapAt_stop {s : ByteArray} {k : Nat} (h : k < s.size) (hw : wsB s[k] = false) (hp : hasPrefix (s.data.toList.drop k) [47, 47] = false) : gapAt s k = k := by
 unfold gapAt
 rw [gap_none hp (fun c r e => by rw [drop_cons s h] at e; injection e with e1 e2; rw [← e1]; exact hw)]
 rfl
theorem gapAt_eof {s : ByteArray} {k : Nat} (h : k ≤ s.size) (hp : hasPrefix (s.data.toList.drop k) [47, 47] = true) (hi : indexByte (s.data.toList.drop k) 10 = -1) : gapAt s k = s.size := by
 have := gap_line (s.data.toList.drop k)
 rw [if_pos hi] at this
 unfold gapAt
 rw [gap_open hp, this, List.length_drop, ← size_eq]
 omega
theorem gapAt_line {s : ByteArray} {k : Nat} (h : k ≤ s.size) (hp : hasPrefix (s.data.toList.drop k) [47, 47] = true) (hi : indexByte (s.data.toList.drop k) 10 ≠ -1) : ∃ n : Nat, indexByte (s.data.toList.drop k) 10 = n ∧ k + n < s.size ∧ 1 ≤ n ∧ gapAt s (k + n) = gapAt s k := by
 have := gap_line (s.data.toList.drop k)
 rw [if_neg hi] at this
 obtain ⟨n, h1, h2, h3⟩ := this
 rw [List.length_drop, ← size_eq] at h2
 have h0 : n ≠ 0 := by
  rintro rfl
  match hl : s.data.toList.drop k, hp, h1 with
  | [], hp, _ => simp [hasPrefix, List.isPrefixOf] at hp
  | [a], hp, _ => simp [hasPrefix, List.isPrefixOf] at hp
  | a :: b :: r, hp, h1 =>
   simp [hasPrefix, List.isPrefixOf] at hp
   obtain ⟨rfl, rfl⟩ := hp
   have hge := indexByte_ge r 10
   by_cases hd : indexByte r 10 = -1
   ·simp [indexByte, hd] at h1
   ·have hd1 : indexByte r 10 + 1 ≠ -1 := by omega
    simp [indexByte, hd, hd1] at h1
    omega
 refine ⟨n, h1, by omega, by omega, ?_⟩
 unfold gapAt
 rw [gap_open hp, h3, List.drop_drop]
 omega
theorem ws_iff (c : UInt8) : wsB c = true ↔ ((c.toNat : Int) = 32 ∨ (c.toNat : Int) = 9 ∨ (c.toNat : Int) = 10) := by
 have h : ∀ n : UInt8, c = n ↔ (c.toNat : Int) = (n.toNat : Int) := fun n => ⟨fun e => by rw [e], fun e => UInt8.toNat_inj.1 (by omega)⟩
 have h1 := h 32
 have h2 := h 9
 have h3 := h 10
 simp only [wsB, Bool.or_eq_true, beq_iff_eq]
 rw [h1, h2, h3]
 show (_ = (32 : Int) ∨ _ = (9 : Int)) ∨ _ = (10 : Int) ↔ _
 omega
/-! Marks. -/
def longMarks : List (List UInt8) := [[38, 38, 38], [61, 61], [33, 61], [60, 61], [62, 61], [60, 60], [62, 62], [38, 38], [124, 124], [43, 43], [45, 62]]
def shortMarks : List UInt8 := [123, 125, 40, 41, 91, 93, 59, 58, 44, 61, 60, 62, 43, 45, 38, 124, 94, 126, 33, 46, 47]
/-- The mark that a text begins with; nothing: it has none. -/
def markF : List (List UInt8) → List UInt8 → List UInt8
 | [], l => if 0 ≤ indexByte shortMarks (l.headD 0) then l.take 1 else []
 | m :: r, l => if hasPrefix l m then m else markF r l
def markL (l : List UInt8) : List UInt8 := markF longMarks l
theorem bytes_ext {s t : ByteArray} (h : s.data.toList = t.data.toList) : s = t := by
 obtain ⟨⟨a⟩⟩ := s
 obtain ⟨⟨b⟩⟩ := t
 simp only at h
 rw [h]
theorem ext_one {s : ByteArray} (h : 0 < s.size) : s.extract 0 1 = ⟨#[s[0]]⟩ := by
 apply bytes_ext
 rw [ext_take]
 have := drop_cons s h
 rw [List.drop_zero] at this
 rw [this]; rfl
theorem head_eq {s : ByteArray} (h : 0 < s.size) : s.data.toList.headD 0 = s[0] := by
 have := drop_cons s h
 rw [List.drop_zero] at this
 rw [this]; rfl
end Go.Proofs.YtbjokgnnklcbcaaGreatDoor
/-! Plain: numbers as text. -/
namespace Go.Proofs.YtbjokgnnklcbcaaGreatDoor
open Go.Lib
/-- All digits of a base. -/
def digitsL : Bool → List UInt8
 | false => [48, 49, 50, 51, 52, 53, 54, 55, 56, 57]
 | true => [48, 49, 50, 51, 52, 53, 54, 55, 56, 57, 97, 98, 99, 100, 101, 102]
def baseN : Bool → Nat
 | false => 10
 | true => 16
/-- A digit's value. -/
def dvL (hex : Bool) (c : UInt8) : Nat := (indexByte (digitsL hex) c).toNat
theorem idx_in : ∀ (l : List UInt8) (c : UInt8), c ∈ l → 0 ≤ indexByte l c ∧ indexByte l c < l.length
 | [], c, h => by simp at h
 | b :: l, c, h => by
  unfold indexByte
  by_cases hb : b = c
  ·simp [hb]
  ·have hc : c ∈ l := by
    rcases List.mem_cons.1 h with h | h
    ·exact absurd h.symm hb
    ·exact h
   have ih := idx_in l c hc
   have hb' : (b == c) = false := by simpa using hb
   have hn : ¬ indexByte l c = -1 := by omega
   simp only [hb', Bool.false_eq_true, if_false, beq_iff_eq, hn, List.length_cons]
   omega
theorem digitsL_len (hex : Bool) : (digitsL hex).length = baseN hex := by cases hex <;> rfl
theorem dvL_eq {hex : Bool} {c : UInt8} (h : c ∈ digitsL hex) : indexByte (digitsL hex) c = (dvL hex c : Int) ∧ dvL hex c < baseN hex := by
 have := idx_in _ _ h
 rw [digitsL_len] at this
 unfold dvL
 omega
abbrev two128 : Nat := 340282366920938463463374607431768211456
/-- One digit more. -/
def stepV (hex : Bool) (x : Nat × Bool) (c : UInt8) : Nat × Bool := ((x.1 * baseN hex + dvL hex c) % two128, x.2 && decide (x.1 * baseN hex + dvL hex c < two128))
def accV (hex : Bool) (r : List UInt8) : Nat × Bool := r.foldl (stepV hex) (0, true)
theorem accV_succ (hex : Bool) (r : List UInt8) {k : Nat} (h : k < r.length) : accV hex (r.take (k + 1)) = stepV hex (accV hex (r.take k)) r[k] := by
 unfold accV
 rw [List.take_succ_eq_append_getElem h, List.foldl_append]
 rfl
theorem accV_lt (hex : Bool) (r : List UInt8) : (accV hex r).1 < two128 := by
 unfold accV
 rcases List.eq_nil_or_concat r with rfl | ⟨l, a, rfl⟩
 ·show 0 < two128
  decide
 ·rw [List.concat_eq_append, List.foldl_append]
  exact Nat.mod_lt _ (by decide)
/-- A text as a number, or what is wrong. -/
def parseR (l : List UInt8) : Except Int Nat :=
 let hex := hasPrefix l [48, 120]
 let r := if hex then toLowerA (l.drop 2) else l
 if r = [] then .error 4 else if r.all (fun c => (digitsL hex).contains c) then (if (accV hex r).2 then .ok (accV hex r).1 else .error 5) else .error 4
theorem dw_nil {α : Type} (p : α → Bool) : ∀ l : List α, l.dropWhile p = [] ↔ ∀ x ∈ l, p x = true
 | [] => by simp
 | a :: l => by
  have ih := dw_nil p l
  by_cases h : p a = true
  ·simp [List.dropWhile_cons, h, ih]
  ·simp [List.dropWhile_cons, h]
theorem trimLeft_nil (l cs : List UInt8) : trimLeftS l cs = [] ↔ l.all (fun c => cs.contains c) = true := by
 unfold trimLeftS
 rw [dw_nil, List.all_eq_true]
theorem trimRight_all (l cs : List UInt8) : (trimRightS l cs).all (fun c => cs.contains c) = true ↔ l.all (fun c => cs.contains c) = true := by
 unfold trimRightS
 rw [List.all_reverse]
 constructor
 ·intro h
  have h2 : l.reverse.dropWhile (cs.contains ·) = [] := by
   rcases hd : l.reverse.dropWhile (cs.contains ·) with _ | ⟨a, r⟩
   ·rfl
   ·have h3 : cs.contains a = true := by
     rw [hd] at h
     simp only [List.all_cons, Bool.and_eq_true] at h
     exact h.1
    have h4 := List.head_dropWhile_not (p := (cs.contains ·)) (l := l.reverse) (by rw [hd]; simp)
    simp only [hd, List.head_cons] at h4
    rw [h3] at h4; cases h4
  rw [dw_nil] at h2
  rw [List.all_eq_true]
  intro x hx
  exact h2 x (by simpa using hx)
 ·intro h
  rw [List.all_eq_true] at h ⊢
  intro x hx
  exact h x (by have := (List.dropWhile_suffix (cs.contains ·) (l := l.reverse)).subset hx; simpa using this)
theorem trimS_nil (l cs : List UInt8) : trimS l cs = [] ↔ l.all (fun c => cs.contains c) = true := by
 unfold trimS
 rw [trimLeft_nil, trimRight_all]
end Go.Proofs.YtbjokgnnklcbcaaGreatDoor
/-! Plain: tokens. -/
namespace Go.Proofs.YtbjokgnnklcbcaaGreatDoor
open Go.Lib
/-- A token: its kind, its bytes, its width, its value, its place. -/
structure Tk where
 kind : Nat
 s : List UInt8
 w : Nat
 n : Nat
 pl : Nat
def decV (l : List UInt8) : Nat := l.foldl (fun a c => a * 10 + (c.toNat - 48)) 0
def digB (c : UInt8) : Bool := digitB (c.toNat : Nat)
/-- A number's value, of a width if one is told. -/
def valX (w : Nat) (wide : Bool) : Except Int Nat → Except Int (Nat × Nat)
 | .error e => .error e
 | .ok n => if wide && !decide (n < 2 ^ w) then .error 5 else .ok (w, n)
def valR (w : Nat) (wide : Bool) (l : List UInt8) : Except Int (Nat × Nat) := valX w wide (parseR l)
/-- A word as a number: its width and its value, or what is wrong. -/
def numR (l : List UInt8) : Except Int (Nat × Nat) :=
 let i := indexByte l 119
 if 0 ≤ i then
  let a := l.take i.toNat
  if a.all digB && decide (a.length ≤ 3) then
   if decV a < 1 ∨ 128 < decV a then .error 10 else valR (decV a) true (l.drop (i.toNat + 1))
  else .error 4
 else valR 0 false l
/-- The token that a text begins with: its kind, its bytes, its width, its value; or what is wrong. -/
def oneR (l : List UInt8) : Except Int (Nat × List UInt8 × Nat × Nat) :=
 let w := l.take (wlenL l)
 if w = [] then (if markL l = [] then .error 4 else .ok (3, markL l, 0, 0))
 else if digB (w.headD 0) then
  match numR w with
  | .error e => .error e
  | .ok x => .ok (2, w, x.1, x.2)
 else if 16 < w.length then .error 3 else .ok (1, w, 0, 0)
/-- What a text's tokens are, from a place on; or which is the first fault, and where. -/
def lexL : Nat → Nat → List UInt8 → Except (Int × Nat) (List Tk)
 | 0, _, _ => .ok []
 | fuel + 1, at_, l =>
  let g := gap false l
  if l.drop g = [] then .ok [⟨0, [], 0, 0, at_ + g⟩]
  else match oneR (l.drop g) with
   | .error e => .error (e, at_ + g)
   | .ok x => match lexL fuel (at_ + g + x.2.1.length) ((l.drop g).drop x.2.1.length) with
    | .error e => .error e
    | .ok r => .ok (⟨x.1, x.2.1, x.2.2.1, x.2.2.2, at_ + g⟩ :: r)
def lexR (l : List UInt8) : Except (Int × Nat) (List Tk) := if 65536 < l.length then .error (3, 0) else lexL (l.length + 1) 0 l
theorem indexByte_nat (l : List UInt8) (c : UInt8) : indexByte l c = -1 ∨ ∃ n : Nat, indexByte l c = n ∧ n < l.length := by
 induction l with
 | nil => exact .inl rfl
 | cons b l ih =>
  unfold indexByte
  by_cases hb : (b == c) = true
  ·rw [if_pos hb]; exact .inr ⟨0, rfl, by simp⟩
  ·rw [if_neg hb]
   rcases ih with ih | ⟨n, h1, h2⟩
   ·rw [ih]; exact .inl rfl
   ·rw [h1]
    have : ((n : Int) == -1) = false := by rw [beq_eq_false_iff_ne]; omega
    rw [if_neg (by rw [this]; simp)]
    exact .inr ⟨n + 1, by omega, by simp; omega⟩
theorem cut_w (l : List UInt8) : cut l [119] = if 0 ≤ indexByte l 119 then (l.take (indexByte l 119).toNat, l.drop ((indexByte l 119).toNat + 1), true) else (l, [], false) := by
 unfold cut
 rw [Go.Lib.index_one]
 rfl
/-- Where the ahead part is a row of at most three digits, it is its value. -/
theorem parseM_digits : ∀ (l : List UInt8) (acc : Nat), l.all digB = true → (acc + 1) * 10 ^ l.length ≤ 1000 → parseUintM 65535 acc l = .ok (l.foldl (fun a c => a * 10 + (c.toNat - 48)) acc) ∧ l.foldl (fun a c => a * 10 + (c.toNat - 48)) acc < (acc + 1) * 10 ^ l.length
 | [], acc, _, h => ⟨rfl, by simp⟩
 | c :: r, acc, h, hk => by
  simp only [List.all_cons, Bool.and_eq_true] at h
  have hd : 48 ≤ c.toNat ∧ c.toNat ≤ 57 := by
   have := h.1
   unfold digB digitB at this
   rw [decide_eq_true_eq] at this
   omega
  have hp : 0 < 10 ^ r.length := Nat.pow_pos (by decide)
  have hstep : acc * 10 + (c.toNat - 48) + 1 ≤ (acc + 1) * 10 := by omega
  have hle : (acc * 10 + (c.toNat - 48) + 1) * 10 ^ r.length ≤ (acc + 1) * 10 ^ (c :: r).length := by
   rw [List.length_cons, Nat.pow_succ, Nat.mul_comm (10 ^ r.length) 10, ← Nat.mul_assoc]
   exact Nat.mul_le_mul_right _ hstep
  have hb : acc * 10 + (c.toNat - 48) + 1 ≤ (acc * 10 + (c.toNat - 48) + 1) * 10 ^ r.length := Nat.le_mul_of_pos_right _ hp
  have ih := parseM_digits r (acc * 10 + (c.toNat - 48)) h.2 (Nat.le_trans hle hk)
  refine ⟨?_, Nat.lt_of_lt_of_le ih.2 hle⟩
  unfold parseUintM
  rw [if_pos hd, if_neg (by omega), if_neg (by omega), ih.1]
  rfl
theorem parseM_bad : ∀ (l : List UInt8) (acc : Nat), l.all digB = false → l.length ≤ 3 → ∀ u, parseUintM 65535 acc l ≠ .ok u
 | [], _, h, _, _ => by simp at h
 | c :: r, acc, h, hk, u => by
  unfold parseUintM
  by_cases hd : 48 ≤ c.toNat ∧ c.toNat ≤ 57
  ·rw [if_pos hd]
   split
   ·simp
   ·split
    ·simp
    ·refine parseM_bad r _ ?_ (by simp at hk; omega) u
     have hc : digB c = true := by unfold digB digitB; rw [decide_eq_true_eq]; omega
     simpa [hc] using h
  ·rw [if_neg hd]; simp
theorem parseB_digits {l : List UInt8} (h0 : l ≠ []) (h : l.all digB = true) (hk : l.length ≤ 3) : parseUintB 16 l = .ok (decV l) ∧ decV l < 1000 := by
 have hp : 10 ^ l.length ≤ 1000 := Nat.pow_le_pow_right (n := 10) (by decide) hk
 have := parseM_digits l 0 h (by omega)
 refine ⟨?_, by unfold decV; omega⟩
 unfold parseUintB
 rw [if_neg h0]
 exact this.1
theorem parseB_bad {l : List UInt8} (h : l.all digB = false) (hk : l.length ≤ 3) (u : Nat) : parseUintB 16 l ≠ .ok u := by
 unfold parseUintB
 split
 ·simp
 ·exact parseM_bad l 0 h hk u
end Go.Proofs.YtbjokgnnklcbcaaGreatDoor

import Derived.Lib.IndexMore
import Derived.Lib.IndexLaws
import Derived.Laws.Strings
import Derived.WideShapes
import Derived.Laws.StructEq
/-! Plain laws on names and keywords: no program in sight. -/
namespace Go.Proofs.Ytjijggighppjbaa
open Go.Lib
def digitB (c : Int) : Bool := decide (48 ≤ c ∧ c ≤ 57)
def letterB (c : Int) : Bool := decide (97 ≤ c ∧ c ≤ 122 ∨ 65 ≤ c ∧ c ≤ 90 ∨ c = 95)
def wordB (c : Int) : Bool := digitB c || letterB c
/-- words, each with a blank behind -/
def spaced : List (List UInt8) → List UInt8
  | [] => []
  | w :: r => w ++ 32 :: spaced r
theorem index_skip (x : List UInt8) : ∀ (w r : List UInt8), (32 : UInt8) ∉ w → (0 ≤ index (w ++ r) (32 :: x) ↔ 0 ≤ index r (32 :: x))
  | [], r, _ => by simp
  | b :: w, r, h => by
    simp only [List.mem_cons, not_or] at h
    have ih := index_skip x w r h.2
    have g := index_ge (w ++ r) (32 :: x)
    have hp : List.isPrefixOf (32 :: x) (b :: (w ++ r)) = false := by
      simp only [List.isPrefixOf, Bool.and_eq_false_iff, beq_eq_false_iff_ne]
      exact .inl h.1
    simp only [List.cons_append, index, hp, Bool.false_eq_true, if_false]
    by_cases e : index (w ++ r) (32 :: x) = -1
    · simp [e] at ih ⊢; exact ih
    · simp only [beq_iff_eq, e, if_false]; rw [← ih]; omega
theorem prefix_word : ∀ (s w : List UInt8) (r : List UInt8), (32 : UInt8) ∉ s → (32 : UInt8) ∉ w → (List.isPrefixOf (s ++ [32]) (w ++ 32 :: r) = true ↔ s = w)
  | [], [], r, _, _ => by simp [List.isPrefixOf]
  | [], b :: w, r, _, hw => by
    simp only [List.mem_cons, not_or] at hw
    simp [List.isPrefixOf, hw.1]
  | a :: s, [], r, hs, _ => by
    simp only [List.mem_cons, not_or] at hs
    simp [List.isPrefixOf]
    intro e; exact absurd e.symm hs.1
  | a :: s, b :: w, r, hs, hw => by
    simp only [List.mem_cons, not_or] at hs hw
    have ih := prefix_word s w r hs.2 hw.2
    simp [List.isPrefixOf] at ih ⊢
    intro _; exact ih
theorem spaced_index (s : List UInt8) (hs : (32 : UInt8) ∉ s) (hne : s ≠ []) : ∀ ws : List (List UInt8), (∀ w ∈ ws, (32 : UInt8) ∉ w) →
    (0 ≤ index (32 :: spaced ws) (32 :: (s ++ [32])) ↔ s ∈ ws)
  | [], _ => by
    cases s with
    | nil => exact absurd rfl hne
    | cons a s => simp [spaced, index, List.isPrefixOf]
  | w :: r, hw => by
    have ih := spaced_index s hs hne r (fun x hx => hw x (List.mem_cons_of_mem _ hx))
    have hww := hw w List.mem_cons_self
    have hp := prefix_word s w (spaced r) hs hww
    have hk := index_skip (s ++ [32]) w (32 :: spaced r) hww
    have g := index_ge (w ++ 32 :: spaced r) (32 :: (s ++ [32]))
    have hq : List.isPrefixOf (32 :: (s ++ [32])) (32 :: (w ++ 32 :: spaced r)) = List.isPrefixOf (s ++ [32]) (w ++ 32 :: spaced r) := by simp [List.isPrefixOf]
    simp only [spaced]
    unfold index
    rw [hq]
    by_cases e : s = w
    · rw [hp.2 e]; simp [e]
    · have : List.isPrefixOf (s ++ [32]) (w ++ 32 :: spaced r) = false := by
        rw [Bool.eq_false_iff]; exact fun h => e (hp.1 h)
      rw [this]
      simp only [Bool.false_eq_true, if_false, List.mem_cons, e, false_or]
      rw [← ih, ← hk]
      by_cases e2 : index (w ++ 32 :: spaced r) (32 :: (s ++ [32])) = -1
      · simp [e2]
      · simp only [beq_iff_eq, e2, if_false]; omega
theorem index_one (s : List UInt8) : 0 ≤ index s [32] ↔ (32 : UInt8) ∈ s := by
  induction s with
  | nil => simp [index]
  | cons b l ih =>
    have g := index_ge l [32]
    by_cases e : b = 32
    · simp [index, List.isPrefixOf, e]
    · have e' : ¬ (32 : UInt8) = b := fun h => e h.symm
      simp only [index, List.isPrefixOf, Bool.and_true, beq_iff_eq, e', if_false, List.mem_cons, false_or, ← ih]
      by_cases e2 : index l [32] = -1
      · simp [e2]
      · simp only [e2, if_false]; omega
def kws : List (List UInt8) := ["header", "metadata", "bit", "parser", "state", "extract", "transition", "select", "accept", "reject", "default", "action", "table", "key", "actions", "exact", "lpm", "ternary", "control", "apply", "if", "else", "drop", "forward", "valid", "invalid", "deparser", "emit", "meta", "port", "isValid", "_"].map fun s => s.toUTF8.data.toList
def kwB (s : ByteArray) : Bool := decide (s.data.toList ∈ kws)
def nameB (s : ByteArray) : Bool := decide (1 ≤ s.size ∧ s.size ≤ 16) && !digitB ((s.data.toList.headD 0).toNat) && !kwB s && s.data.toList.all fun c => wordB c.toNat
theorem kws_blank : ∀ w ∈ kws, (32 : UInt8) ∉ w := by decide +kernel
theorem kws_empty : [] ∉ kws := by decide +kernel
theorem kw_iff (s : List UInt8) (t : List UInt8) (ht : t = 32 :: spaced kws) :
    (s ≠ [] ∧ contains s [32] = false ∧ contains t (32 :: (s ++ [32])) = true) ↔ s ∈ kws := by
  subst ht
  unfold contains
  have h1 := index_one s
  constructor
  · rintro ⟨hne, hb, hc⟩
    simp only [decide_eq_false_iff_not, decide_eq_true_eq] at hb hc
    exact (spaced_index s (fun h => hb (h1.2 h)) hne kws kws_blank).1 hc
  · intro h
    have hb := kws_blank s h
    have hne : s ≠ [] := fun e => kws_empty (e ▸ h)
    refine ⟨hne, ?_, ?_⟩
    · simp only [decide_eq_false_iff_not]; exact fun g => hb (h1.1 g)
    · simp only [decide_eq_true_eq]; exact (spaced_index s hb hne kws kws_blank).2 h
theorem kwB_empty {s : ByteArray} (h : s.toList = []) : kwB s = false := by
  rw [ByteArray.toList_eq] at h
  simp only [kwB, h, decide_eq_false_iff_not]; exact kws_empty
theorem kwB_blank {s : ByteArray} (hb : contains s.data.toList (ByteArray.mk #[32]).data.toList = true) : kwB s = false := by
  have h1 : (32 : UInt8) ∈ s.data.toList := (index_one _).1 (by simpa [contains] using hb)
  simp only [kwB, decide_eq_false_iff_not]; exact fun h => kws_blank _ h h1
theorem kwB_eq (s : ByteArray) (C : List UInt8) (hC : C = 32 :: spaced kws) (h0 : ¬ s.toList = []) (hb : contains s.data.toList (ByteArray.mk #[32]).data.toList = false) :
    contains C (ByteArray.mk #[32] ++ s ++ ByteArray.mk #[32]).data.toList = kwB s := by
  rw [ByteArray.toList_eq] at h0
  have e : (ByteArray.mk #[32] ++ s ++ ByteArray.mk #[32]).data.toList = 32 :: (s.data.toList ++ [32]) := by simp
  have := kw_iff s.data.toList C hC
  rw [Bool.eq_iff_iff, e, kwB, decide_eq_true_eq, ← this]
  exact ⟨fun h => ⟨h0, hb, h⟩, fun h => h.2.2⟩
def wlenL (l : List UInt8) : Nat := (l.takeWhile fun c => wordB c.toNat).length
theorem wlenL_succ : ∀ (l : List UInt8) (k : Nat) (hk : k < l.length), k ≤ wlenL l → wordB (l[k].toNat : Nat) = true → k + 1 ≤ wlenL l
  | [], k, hk, _, _ => absurd hk (by simp)
  | c :: l, 0, _, _, hw => by simp at hw; simp [wlenL, hw]
  | c :: l, k + 1, hk, hl, hw => by
    by_cases hc : wordB (c.toNat : Nat) = true
    · have ih := wlenL_succ l k (by simpa using hk) (by simpa [wlenL, hc] using hl) (by simpa using hw)
      simpa [wlenL, hc] using ih
    · simp [wlenL, hc] at hl
theorem wlenL_stop : ∀ (l : List UInt8) (k : Nat) (hk : k < l.length), k ≤ wlenL l → wordB (l[k].toNat : Nat) = false → wlenL l = k
  | [], k, hk, _, _ => absurd hk (by simp)
  | c :: l, 0, _, _, hw => by simp at hw; simp [wlenL, hw]
  | c :: l, k + 1, hk, hl, hw => by
    by_cases hc : wordB (c.toNat : Nat) = true
    · have ih := wlenL_stop l k (by simpa using hk) (by simpa [wlenL, hc] using hl) (by simpa using hw)
      simpa [wlenL, hc] using ih
    · simp [wlenL, hc] at hl
theorem wlenL_le : ∀ l : List UInt8, wlenL l ≤ l.length
  | [] => by simp [wlenL]
  | c :: l => by
    have := wlenL_le l
    by_cases hc : wordB (c.toNat : Nat) = true <;> simp [wlenL, hc] at this ⊢; exact this
theorem wlenL_all : ∀ l : List UInt8, wlenL l = l.length ↔ l.all (fun c => wordB c.toNat) = true
  | [] => by simp [wlenL]
  | c :: l => by
    have := wlenL_all l
    by_cases hc : wordB (c.toNat : Nat) = true <;> simp [wlenL, hc] at this ⊢; exact this
def wlen (s : ByteArray) : Nat := wlenL s.data.toList
theorem wlen_succ {s : ByteArray} {k : Nat} (hk : k < s.size) (h : k ≤ wlen s) (hw : wordB (s[k].toNat : Nat) = true) : k + 1 ≤ wlen s :=
  wlenL_succ _ k (by simpa using hk) h hw
theorem wlen_stop {s : ByteArray} {k : Nat} (hk : k < s.size) (h : k ≤ wlen s) (hw : wordB (s[k].toNat : Nat) = false) : wlen s = k :=
  wlenL_stop _ k (by simpa using hk) h hw
theorem wlen_le (s : ByteArray) : wlen s ≤ s.size := by have := wlenL_le s.data.toList; simpa [wlen] using this
theorem wlen_end {s : ByteArray} {k : Nat} (hk : k ≤ s.size) (hn : ¬ k < s.size) (h : k ≤ wlen s) : wlen s = k := by have := wlen_le s; omega
theorem wlen_self (s : ByteArray) : ((s.extract 0 (wlen s)).toList == s.toList) = s.data.toList.all fun c => wordB c.toNat := by
  have ha := wlenL_all s.data.toList
  have hl := wlen_le s
  rw [Bool.eq_iff_iff, ← ha, ByteArray.toList_eq, ByteArray.toList_eq, beq_iff_eq]
  constructor
  · intro h
    have := congrArg List.length h
    simp at this
    simp [wlen] at this hl ⊢; omega
  · intro h
    have e : wlen s = s.size := by simpa [wlen] using h
    rw [e]; simp
theorem isEmpty_false {s : ByteArray} (h : 0 < s.size) : s.toList.isEmpty = false := by
  rw [ByteArray.toList_eq]
  have : s.data.toList.length = s.size := by simp
  cases he : s.data.toList with
  | nil => rw [he] at this; simp at this; omega
  | cons a l => rfl
theorem isEmpty_true {s : ByteArray} (h : ¬ 0 < s.size) : s.toList.isEmpty = true := by
  rw [ByteArray.toList_eq]
  have : s.data.toList.length = s.size := by simp
  cases he : s.data.toList with
  | nil => rfl
  | cons a l => rw [he] at this; simp at this; omega
theorem headD_eq {s : ByteArray} (h : 0 < s.size) : s.data.toList.headD 0 = s[0] := by
  have e : s[0] = s.data.toList[0]'(by simpa using h) := by simp; rfl
  have g : ∀ (l : List UInt8) (hl : 0 < l.length), l.headD 0 = l[0] := fun l hl => by
    cases l with
    | nil => simp at hl
    | cons a l => simp
  rw [e]; exact g _ _
theorem nameB_eq (s : ByteArray) : nameB s = (((s.extract 0 (wlen s)).toList == s.toList) && !s.toList.isEmpty && decide (s.size ≤ 16) && !digitB ((s.data.toList.headD 0).toNat : Nat) && !kwB s) := by
  rw [wlen_self]
  by_cases h0 : 0 < s.size
  · rw [isEmpty_false h0]
    have : (decide (1 ≤ s.size ∧ s.size ≤ 16)) = decide (s.size ≤ 16) := by simp; omega
    rw [nameB, this]
    cases s.data.toList.all fun c => wordB (c.toNat : Nat) <;> simp
  · rw [isEmpty_true h0]
    have : (decide (1 ≤ s.size ∧ s.size ≤ 16)) = false := by simp; omega
    rw [nameB, this]; simp
def kwArr : List ByteArray := [⟨#[104, 101, 97, 100, 101, 114]⟩, ⟨#[109, 101, 116, 97, 100, 97, 116, 97]⟩, ⟨#[98, 105, 116]⟩, ⟨#[112, 97, 114, 115, 101, 114]⟩, ⟨#[115, 116, 97, 116, 101]⟩, ⟨#[101, 120, 116, 114, 97, 99, 116]⟩, ⟨#[116, 114, 97, 110, 115, 105, 116, 105, 111, 110]⟩, ⟨#[115, 101, 108, 101, 99, 116]⟩, ⟨#[97, 99, 99, 101, 112, 116]⟩, ⟨#[114, 101, 106, 101, 99, 116]⟩, ⟨#[100, 101, 102, 97, 117, 108, 116]⟩, ⟨#[97, 99, 116, 105, 111, 110]⟩, ⟨#[116, 97, 98, 108, 101]⟩, ⟨#[107, 101, 121]⟩, ⟨#[97, 99, 116, 105, 111, 110, 115]⟩, ⟨#[101, 120, 97, 99, 116]⟩, ⟨#[108, 112, 109]⟩, ⟨#[116, 101, 114, 110, 97, 114, 121]⟩, ⟨#[99, 111, 110, 116, 114, 111, 108]⟩, ⟨#[97, 112, 112, 108, 121]⟩, ⟨#[105, 102]⟩, ⟨#[101, 108, 115, 101]⟩, ⟨#[100, 114, 111, 112]⟩, ⟨#[102, 111, 114, 119, 97, 114, 100]⟩, ⟨#[118, 97, 108, 105, 100]⟩, ⟨#[105, 110, 118, 97, 108, 105, 100]⟩, ⟨#[100, 101, 112, 97, 114, 115, 101, 114]⟩, ⟨#[101, 109, 105, 116]⟩, ⟨#[109, 101, 116, 97]⟩, ⟨#[112, 111, 114, 116]⟩, ⟨#[105, 115, 86, 97, 108, 105, 100]⟩, ⟨#[95]⟩]
theorem kwArr_kws : kwArr.map (fun s => s.data.toList) = kws := by decide +kernel
instance : LawfulBEq ByteArray where
  eq_of_beq {a b} h := by rw [Go.beq_toListBytes, beq_iff_eq, ByteArray.toList_eq, ByteArray.toList_eq] at h; exact Go.WideShapes.bytes_inj h
  rfl {a} := by rw [Go.beq_toListBytes, beq_iff_eq]
theorem kwB_arr (s : ByteArray) : kwB s = decide (s ∈ kwArr) := by
  rw [kwB, Bool.eq_iff_iff, decide_eq_true_eq, decide_eq_true_eq, ← kwArr_kws, List.mem_map]
  exact ⟨fun ⟨a, ha, e⟩ => by rw [← Go.WideShapes.bytes_inj e]; exact ha, fun h => ⟨s, h, rfl⟩⟩
theorem kwArr_size : ∀ s ∈ kwArr, s.size ≤ 16 := by decide +kernel
end Go.Proofs.Ytjijggighppjbaa

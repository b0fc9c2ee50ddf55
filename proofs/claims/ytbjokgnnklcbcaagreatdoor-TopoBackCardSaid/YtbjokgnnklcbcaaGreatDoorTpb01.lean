import Derived.Test.YtbjokgnnklcbcaaGreatDoorShelf
import Derived.Test.YtbjokgnnklcbcaaGreatDoorRows
import Derived.Lib.LaidCaseMet
import Derived.Lib.LaidIn
import Derived.PinnedBridge
import Derived.Deep.DeepHandedRow
import Derived.Deep.DeepWitnessRowRef
import Derived.ProofKit
import Derived.Lib.IndexMore
import Derived.Lib.IndexLaws
import Derived.Laws.Strings
import Derived.WideShapes
import Derived.Laws.StructEq
import Derived.Lib.Strings
set_option linter.all false
/-! The witness world of the rows of layer 13: what the listed variables hold. -/
namespace Go.Proofs.YtbjokgnnklcbcaaGreatDoor
open Go.ChangeShapes Go.WideShapes Go.ChangeAt Go.RowKit Go.Lib Go.Shelf

/-- unicode.CaseRanges alone: a variable that holds a slice of the table's cells. -/
theorem laidIn_case {P : Program} {ρ : Ren} (L : Lays.n274 P ρ) (t206 : P.underlying (ρ.t 206) = some (.array 3 (ρ.t 21))) (X : CaseExtra P ρ) {w : World}
  (R : Nat) (t : TypeId) (hgR : ρ.g 13 ≠ R)
  (hvar : w.heap[ρ.g 13]? = some (.cells #[.slice (some ⟨R, 0, none⟩) caseA.size caseA.size] (ρ.t 162) (0, 0)))
  (hblk : w.heap[R]? = some (.cells caseCells5 t (0, 0))) : LaidIn P w [("unicode.CaseRanges", caseData)] [ρ.g 13, R] := by
 have hT := caseTab_of_block hblk
 have hread := case_slice_reads L t206 X hT caseA_wf (by rw [caseA_size]; unfold maxLen; omega) 0
 rw [case_rows_data] at hread
 have hv : w.var? P "unicode.CaseRanges" = some #[.slice (some ⟨R, 0, none⟩) caseA.size caseA.size] := by simp [World.var?, X.n13, hvar]
 refine LaidIn.one [ρ.g 13, R] X.n13 X.y13 hv hread ?_ ?_ ?_
 ·refine List.nodup_append.2 ⟨row_nodup _ _, row_nodup _ _, ?_⟩
  intro a ha b hb e
  obtain ⟨i, _, rfl⟩ := MemPlace.mem_row.1 ha
  obtain ⟨j, _, rfl⟩ := MemPlace.mem_row.1 hb
  simp at e
  exact hgR e.1
 ·intro b off hp
  rcases List.mem_append.1 hp with hp | hp
  ·obtain ⟨i, hi, e⟩ := MemPlace.mem_row.1 hp
   cases e
   refine ⟨⟨_, _, hvar⟩, fun u v hc => ?_⟩
   obtain rfl : i = 0 := by simpa using hi
   rw [Lib.cell_of_heap hvar] at hc
   simp at hc
  ·obtain ⟨i, hi, e⟩ := MemPlace.mem_row.1 hp
   cases e
   refine ⟨⟨_, _, hblk⟩, fun u v hc => ?_⟩
   obtain ⟨c0, c1, c2, c3, c4⟩ := hT (i / 5) (by omega)
   have hi5 : 0 + i = 0 + i / 5 * 5 + i % 5 := by omega
   simp only at hc
   rw [hi5] at hc
   have hm : i % 5 < 5 := Nat.mod_lt _ (by omega)
   match hk : i % 5, hm with
   | 0, _ => rw [hk, Nat.add_zero, c0] at hc; cases hc
   | 1, _ => rw [hk, c1] at hc; cases hc
   | 2, _ => rw [hk, c2] at hc; cases hc
   | 3, _ => rw [hk, c3] at hc; cases hc
   | 4, _ => rw [hk, c4] at hc; cases hc
 ·intro x hx
  rcases List.mem_append.1 hx with hp | hp
  ·obtain ⟨i, _, rfl⟩ := MemPlace.mem_row.1 hp
   exact List.mem_cons_self
  ·obtain ⟨i, _, rfl⟩ := MemPlace.mem_row.1 hp
   exact List.mem_cons_of_mem _ List.mem_cons_self

/-- The cells of a datum of numbers. -/
def lwLit : DataW Unit → Value
 | .lit (.int k z) => .int k z
 | _ => .nilIface
def lwAgg : DataW Unit → List Value
 | .agg l => l.map lwLit
 | d => [lwLit d]
def lwFlat : DataW Unit → List Value
 | .agg l => l.flatMap lwAgg
 | _ => []
def lwErr : DataW Unit → ByteArray
 | .iface _ (.ptr (.agg [.lit (.string s)])) => ⟨s.toArray⟩
 | _ => ⟨#[]⟩
/-- THE WITNESS: the settled world with three blocks more, the eight variables holding what their initialisers lay. -/
noncomputable def laidWorld (os : Os) : World :=
 let N := (World.settled Tryz.prog os).heap.size
 let w0 := World.holding Tryz.prog os ⟨#[.cells #[.string (lwErr Rows.laid_strconv_ErrRange)] 217, .cells #[.string (lwErr Rows.laid_strconv_ErrSyntax)] 217, .cells caseCells5 233], #[], []⟩
 let put (h : Array Obj) (g : Nat) (cs : Array Value) : Array Obj := h.modify g fun
  | .cells _ t frozen => .cells cs t frozen
  | o => o
 let h1 := put w0.heap 4 (lwFlat Rows.laid_math_bits_deBruijn32tab).toArray
 let h2 := put h1 5 (lwFlat Rows.laid_math_bits_deBruijn64tab).toArray
 let h3 := put h2 1 (lwFlat Rows.laid_internal_strconv_uint64pow10).toArray
 let h4 := put h3 8 (lwFlat Rows.laid_unicode_utf8_acceptRanges).toArray
 let h5 := put h4 3 #[.iface 215 (.pointer (some ⟨N, 0, none⟩))]
 let h6 := put h5 2 #[.iface 215 (.pointer (some ⟨N + 1, 0, none⟩))]
 let h7 := put h6 6 #[.slice (some ⟨N + 2, 0, none⟩) 336 336]
 let h8 := put h7 7 (Lib.firstTab.map fun z => Value.int .u8 z).toArray
 { w0 with heap := h8 }
noncomputable abbrev wN : Nat := (World.settled Tryz.prog default).heap.size
set_option maxRecDepth 100000 in
theorem lw_p1 (os : Os) (args : Array Value) : LaidIn Tryz.prog ((laidWorld os).forCall (fun _ _ => 0) ⟨#[], args, []⟩).memory (Rows.topoReadsRow.laid.take 6) [4, 5, 1, 8, 3, wN, 2, wN + 1] :=
 LaidIn.of_run [4, 5, 1, 8, 3, wN, 2, wN + 1] 8 (by kernel_rfl) (by kernel_rfl) (by kernel_rfl) (by kernel_rfl)
set_option maxRecDepth 100000 in
theorem lw_p2 (os : Os) (args : Array Value) : LaidIn Tryz.prog ((laidWorld os).forCall (fun _ _ => 0) ⟨#[], args, []⟩).memory [("unicode.CaseRanges", Rows.laid_unicode_CaseRanges)] [6, wN + 2] := by
 have e : Rows.laid_unicode_CaseRanges = caseData := Pinned.caseRanges_eq
 rw [e]
 exact laidIn_case (ρ := Tryz.lays159_ren) { Tryz.lays159 with } Tryz.lays159.t206 ⟨by kernel_rfl, by kernel_rfl, by kernel_rfl, by kernel_rfl, by kernel_rfl, by kernel_rfl⟩ (wN + 2) 233 (of_decide_eq_true (by kernel_rfl)) (by kernel_rfl) (by kernel_rfl)
set_option maxRecDepth 100000 in
theorem lw_p3 (os : Os) (args : Array Value) : LaidIn Tryz.prog ((laidWorld os).forCall (fun _ _ => 0) ⟨#[], args, []⟩).memory [("unicode/utf8.first", Rows.laid_unicode_utf8_first)] [7] := by
 have e : Rows.laid_unicode_utf8_first = firstData := Pinned.utf8First_eq
 rw [e]
 exact LaidIn.of_run [7] 8 (by kernel_rfl) (by kernel_rfl) (by kernel_rfl) (by kernel_rfl)
theorem lw_met (os : Os) (args : Array Value) : laidMet Tryz.prog Rows.topoReadsRow.laid ((laidWorld os).forCall (fun _ _ => 0) ⟨#[], args, []⟩).memory :=
 (((lw_p1 os args).append (lw_p2 os args) (by kernel_rfl)).append (lw_p3 os args) (by kernel_rfl)).met
end Go.Proofs.YtbjokgnnklcbcaaGreatDoor
/-! Plain laws on names and keywords: no program in sight. -/
namespace Go.Proofs.YtbjokgnnklcbcaaGreatDoor
open Go.Lib
def digitB (c : Int) : Bool := decide (48 ≤ c ∧ c ≤ 57)
def letterB (c : Int) : Bool := decide (97 ≤ c ∧ c ≤ 122 ∨ 65 ≤ c ∧ c ≤ 90 ∨ c = 95)
def wordB (c : Int) : Bool := digitB c || letterB c
/-- words, each with a blank behind -/
def spaced : List (List UInt8) → List UInt8
 | [] => []
 | w :: r => w ++ 32 :: spaced r
theorem index_skip (x : List UInt8) : ∀ (w r : List UInt8), (32 : UInt8) ∉ w → (0 ≤ index (w ++ r) (32 :: x) ↔ 0 ≤ index r (32 :: x))
 | [], r, _ => by simp
 | b :: w, r, h => by
  simp only [List.mem_cons, not_or] at h
  have ih := index_skip x w r h.2
  have g := index_ge (w ++ r) (32 :: x)
  have hp : List.isPrefixOf (32 :: x) (b :: (w ++ r)) = false := by
   simp only [List.isPrefixOf, Bool.and_eq_false_iff, beq_eq_false_iff_ne]
   exact .inl h.1
  simp only [List.cons_append, index, hp, Bool.false_eq_true, if_false]
  by_cases e : index (w ++ r) (32 :: x) = -1
  ·simp [e] at ih ⊢; exact ih
  ·simp only [beq_iff_eq, e, if_false]; rw [← ih]; omega
theorem prefix_word : ∀ (s w : List UInt8) (r : List UInt8), (32 : UInt8) ∉ s → (32 : UInt8) ∉ w → (List.isPrefixOf (s ++ [32]) (w ++ 32 :: r) = true ↔ s = w)
 | [], [], r, _, _ => by simp [List.isPrefixOf]
 | [], b :: w, r, _, hw => by
  simp only [List.mem_cons, not_or] at hw
  simp [List.isPrefixOf, hw.1]
 | a :: s, [], r, hs, _ => by
  simp only [List.mem_cons, not_or] at hs
  simp [List.isPrefixOf]
  intro e; exact absurd e.symm hs.1
 | a :: s, b :: w, r, hs, hw => by
  simp only [List.mem_cons, not_or] at hs hw
  have ih := prefix_word s w r hs.2 hw.2
  simp [List.isPrefixOf] at ih ⊢
  intro _; exact ih
theorem spaced_index (s : List UInt8) (hs : (32 : UInt8) ∉ s) (hne : s ≠ []) : ∀ ws : List (List UInt8), (∀ w ∈ ws, (32 : UInt8) ∉ w) →
  (0 ≤ index (32 :: spaced ws) (32 :: (s ++ [32])) ↔ s ∈ ws)
 | [], _ => by
  cases s with
  | nil => exact absurd rfl hne
  | cons a s => simp [spaced, index, List.isPrefixOf]
 | w :: r, hw => by
  have ih := spaced_index s hs hne r (fun x hx => hw x (List.mem_cons_of_mem _ hx))
  have hww := hw w List.mem_cons_self
  have hp := prefix_word s w (spaced r) hs hww
  have hk := index_skip (s ++ [32]) w (32 :: spaced r) hww
  have g := index_ge (w ++ 32 :: spaced r) (32 :: (s ++ [32]))
  have hq : List.isPrefixOf (32 :: (s ++ [32])) (32 :: (w ++ 32 :: spaced r)) = List.isPrefixOf (s ++ [32]) (w ++ 32 :: spaced r) := by simp [List.isPrefixOf]
  simp only [spaced]
  unfold index
  rw [hq]
  by_cases e : s = w
  ·rw [hp.2 e]; simp [e]
  ·have : List.isPrefixOf (s ++ [32]) (w ++ 32 :: spaced r) = false := by
    rw [Bool.eq_false_iff]; exact fun h => e (hp.1 h)
   rw [this]
   simp only [Bool.false_eq_true, if_false, List.mem_cons, e, false_or]
   rw [← ih, ← hk]
   by_cases e2 : index (w ++ 32 :: spaced r) (32 :: (s ++ [32])) = -1
   ·simp [e2]
   ·simp only [beq_iff_eq, e2, if_false]; omega
theorem index_one (s : List UInt8) : 0 ≤ index s [32] ↔ (32 : UInt8) ∈ s := by
 induction s with
 | nil => simp [index]
 | cons b l ih =>
  have g := index_ge l [32]
  by_cases e : b = 32
  ·simp [index, List.isPrefixOf, e]
  ·have e' : ¬ (32 : UInt8) = b := fun h => e h.symm
   simp only [index, List.isPrefixOf, Bool.and_true, beq_iff_eq, e', if_false, List.mem_cons, false_or, ← ih]
   by_cases e2 : index l [32] = -1
   ·simp [e2]
   ·simp only [e2, if_false]; omega
def kws : List (List UInt8) := ["header", "metadata", "bit", "parser", "state", "extract", "transition", "select", "accept", "reject", "default", "action", "table", "key", "actions", "exact", "lpm", "ternary", "control", "apply", "if", "else", "drop", "forward", "valid", "invalid", "deparser", "emit", "meta", "port", "isValid", "_"].map fun s => s.toUTF8.data.toList
def kwB (s : ByteArray) : Bool := decide (s.data.toList ∈ kws)
def nameB (s : ByteArray) : Bool := decide (1 ≤ s.size ∧ s.size ≤ 16) && !digitB ((s.data.toList.headD 0).toNat) && !kwB s && s.data.toList.all fun c => wordB c.toNat
theorem kws_blank : ∀ w ∈ kws, (32 : UInt8) ∉ w := by decide +kernel
theorem kws_empty : [] ∉ kws := by decide +kernel
theorem kw_iff (s : List UInt8) (t : List UInt8) (ht : t = 32 :: spaced kws) :
  (s ≠ [] ∧ contains s [32] = false ∧ contains t (32 :: (s ++ [32])) = true) ↔ s ∈ kws := by
 subst ht
 unfold contains
 have h1 := index_one s
 constructor
 ·rintro ⟨hne, hb, hc⟩
  simp only [decide_eq_false_iff_not, decide_eq_true_eq] at hb hc
  exact (spaced_index s (fun h => hb (h1.2 h)) hne kws kws_blank).1 hc
 ·intro h
  have hb := kws_blank s h
  have hne : s ≠ [] := fun e => kws_empty (e ▸ h)
  refine ⟨hne, ?_, ?_⟩
  ·simp only [decide_eq_false_iff_not]; exact fun g => hb (h1.1 g)
  ·simp only [decide_eq_true_eq]; exact (spaced_index s hb hne kws kws_blank).2 h
theorem kwB_empty {s : ByteArray} (h : s.toList = []) : kwB s = false := by
 rw [ByteArray.toList_eq] at h
 simp only [kwB, h, decide_eq_false_iff_not]; exact kws_empty
theorem kwB_blank {s : ByteArray} (hb : contains s.data.toList (ByteArray.mk #[32]).data.toList = true) : kwB s = false := by
 have h1 : (32 : UInt8) ∈ s.data.toList := (index_one _).1 (by simpa [contains] using hb)
 simp only [kwB, decide_eq_false_iff_not]; exact fun h => kws_blank _ h h1
theorem kwB_eq (s : ByteArray) (C : List UInt8) (hC : C = 32 :: spaced kws) (h0 : ¬ s.toList = []) (hb : contains s.data.toList (ByteArray.mk #[32]).data.toList = false) :
  contains C (ByteArray.mk #[32] ++ s ++ ByteArray.mk #[32]).data.toList = kwB s := by
 rw [ByteArray.toList_eq] at h0
 have e : (ByteArray.mk #[32] ++ s ++ ByteArray.mk #[32]).data.toList = 32 :: (s.data.toList ++ [32]) := by simp
 have := kw_iff s.data.toList C hC
 rw [Bool.eq_iff_iff, e, kwB, decide_eq_true_eq, ← this]
 exact ⟨fun h => ⟨h0, hb, h⟩, fun h => h.2.2⟩
def wlenL (l : List UInt8) : Nat := (l.takeWhile fun c => wordB c.toNat).length
theorem wlenL_succ : ∀ (l : List UInt8) (k : Nat) (hk : k < l.length), k ≤ wlenL l → wordB (l[k].toNat : Nat) = true → k + 1 ≤ wlenL l
 | [], k, hk, _, _ => absurd hk (by simp)
 | c :: l, 0, _, _, hw => by simp at hw; simp [wlenL, hw]
 | c :: l, k + 1, hk, hl, hw => by
  by_cases hc : wordB (c.toNat : Nat) = true
  ·have ih := wlenL_succ l k (by simpa using hk) (by simpa [wlenL, hc] using hl) (by simpa using hw)
   simpa [wlenL, hc] using ih
  ·simp [wlenL, hc] at hl
theorem wlenL_stop : ∀ (l : List UInt8) (k : Nat) (hk : k < l.length), k ≤ wlenL l → wordB (l[k].toNat : Nat) = false → wlenL l = k
 | [], k, hk, _, _ => absurd hk (by simp)
 | c :: l, 0, _, _, hw => by simp at hw; simp [wlenL, hw]
 | c :: l, k + 1, hk, hl, hw => by
  by_cases hc : wordB (c.toNat : Nat) = true
  ·have ih := wlenL_stop l k (by simpa using hk) (by simpa [wlenL, hc] using hl) (by simpa using hw)
   simpa [wlenL, hc] using ih
  ·simp [wlenL, hc] at hl
theorem wlenL_le : ∀ l : List UInt8, wlenL l ≤ l.length
 | [] => by simp [wlenL]
 | c :: l => by
  have := wlenL_le l
  by_cases hc : wordB (c.toNat : Nat) = true <;> simp [wlenL, hc] at this ⊢; exact this
theorem wlenL_all : ∀ l : List UInt8, wlenL l = l.length ↔ l.all (fun c => wordB c.toNat) = true
 | [] => by simp [wlenL]
 | c :: l => by
  have := wlenL_all l
  by_cases hc : wordB (c.toNat : Nat) = true <;> simp [wlenL, hc] at this ⊢; exact this
def wlen (s : ByteArray) : Nat := wlenL s.data.toList
theorem wlen_succ {s : ByteArray} {k : Nat} (hk : k < s.size) (h : k ≤ wlen s) (hw : wordB (s[k].toNat : Nat) = true) : k + 1 ≤ wlen s :=
 wlenL_succ _ k (by simpa using hk) h hw
theorem wlen_stop {s : ByteArray} {k : Nat} (hk : k < s.size) (h : k ≤ wlen s) (hw : wordB (s[k].toNat : Nat) = false) : wlen s = k :=
 wlenL_stop _ k (by simpa using hk) h hw
theorem wlen_le (s : ByteArray) : wlen s ≤ s.size := by have := wlenL_le s.data.toList; simpa [wlen] using this
theorem wlen_end {s : ByteArray} {k : Nat} (hk : k ≤ s.size) (hn : ¬ k < s.size) (h : k ≤ wlen s) : wlen s = k := by have := wlen_le s; omega
theorem wlen_self (s : ByteArray) : ((s.extract 0 (wlen s)).toList == s.toList) = s.data.toList.all fun c => wordB c.toNat := by
 have ha := wlenL_all s.data.toList
 have hl := wlen_le s
 rw [Bool.eq_iff_iff, ← ha, ByteArray.toList_eq, ByteArray.toList_eq, beq_iff_eq]
 constructor
 ·intro h
  have := congrArg List.length h
  simp at this
  simp [wlen] at this hl ⊢; omega
 ·intro h
  have e : wlen s = s.size := by simpa [wlen] using h
  rw [e]; simp
theorem isEmpty_false {s : ByteArray} (h : 0 < s.size) : s.toList.isEmpty = false := by
 rw [ByteArray.toList_eq]
 have : s.data.toList.length = s.size := by simp
 cases he : s.data.toList with
 | nil => rw [he] at this; simp at this; omega
 | cons a l => rfl
theorem isEmpty_true {s : ByteArray} (h : ¬ 0 < s.size) : s.toList.isEmpty = true := by
 rw [ByteArray.toList_eq]
 have : s.data.toList.length = s.size := by simp
 cases he : s.data.toList with
 | nil => rfl
 | cons a l => rw [he] at this; simp at this; omega
theorem headD_eq {s : ByteArray} (h : 0 < s.size) : s.data.toList.headD 0 = s[0] := by
 have e : s[0] = s.data.toList[0]'(by simpa using h) := by simp; rfl
 have g : ∀ (l : List UInt8) (hl : 0 < l.length), l.headD 0 = l[0] := fun l hl => by
  cases l with
  | nil => simp at hl
  | cons a l => simp
 rw [e]; exact g _ _
theorem nameB_eq (s : ByteArray) : nameB s = (((s.extract 0 (wlen s)).toList == s.toList) && !s.toList.isEmpty && decide (s.size ≤ 16) && !digitB ((s.data.toList.headD 0).toNat : Nat) && !kwB s) := by
 rw [wlen_self]
 by_cases h0 : 0 < s.size
 ·rw [isEmpty_false h0]
  have : (decide (1 ≤ s.size ∧ s.size ≤ 16)) = decide (s.size ≤ 16) := by simp; omega
  rw [nameB, this]
  cases s.data.toList.all fun c => wordB (c.toNat : Nat) <;> simp
 ·rw [isEmpty_true h0]
  have : (decide (1 ≤ s.size ∧ s.size ≤ 16)) = false := by simp; omega
  rw [nameB, this]; simp
instance : LawfulBEq ByteArray where
 eq_of_beq {a b} h := by rw [Go.beq_toListBytes, beq_iff_eq, ByteArray.toList_eq, ByteArray.toList_eq] at h; exact Go.WideShapes.bytes_inj h
 rfl {a} := by rw [Go.beq_toListBytes, beq_iff_eq]
end Go.Proofs.YtbjokgnnklcbcaaGreatDoor
/-! Plain: what stands between tokens. -/
namespace Go.Proofs.YtbjokgnnklcbcaaGreatDoor
open Go.Lib
theorem ext_toList (s : ByteArray) (a b : Nat) : (s.extract a b).data.toList = (s.data.toList.take b).drop a := by
 simp only [ByteArray.data_extract, Array.toList_extract, List.extract_eq_take_drop]
 rw [List.drop_take]
theorem ext_drop (s : ByteArray) (a : Nat) : (s.extract a s.size).data.toList = s.data.toList.drop a := by
 rw [ext_toList, List.take_of_length_le (by rw [size_eq]; exact Nat.le_refl _)]
theorem ext_take (s : ByteArray) (b : Nat) : (s.extract 0 b).data.toList = s.data.toList.take b := by rw [ext_toList, List.drop_zero]
theorem drop_cons (s : ByteArray) {k : Nat} (h : k < s.size) : s.data.toList.drop k = s[k] :: s.data.toList.drop (k + 1) := by
 rw [List.drop_eq_getElem_cons (by rw [← size_eq]; exact h)]
 rfl
def wsB (c : UInt8) : Bool := c == 32 || c == 9 || c == 10
/-- How many bytes stand ahead of the next token; true: in a comment. -/
def gap : Bool → List UInt8 → Nat
 | _, [] => 0
 | false, c :: r => if wsB c then gap false r + 1 else if c = 47 ∧ r.head? = some 47 then gap true r + 1 else 0
 | true, c :: r => if c = 10 then gap false r + 1 else gap true r + 1
theorem gap_le : ∀ (b : Bool) (l : List UInt8), gap b l ≤ l.length
 | _, [] => by simp [gap]
 | false, c :: r => by
  have h1 := gap_le false r
  have h2 := gap_le true r
  simp only [gap, List.length_cons]
  split
  ·omega
  ·split <;> omega
 | true, c :: r => by
  have h1 := gap_le false r
  have h2 := gap_le true r
  simp only [gap, List.length_cons]
  split <;> omega
theorem gap_open {l : List UInt8} (h : hasPrefix l [47, 47] = true) : gap false l = gap true l := by
 match l, h with
 | [], h => simp [hasPrefix, List.isPrefixOf] at h
 | [a], h => simp [hasPrefix, List.isPrefixOf] at h
 | a :: b :: r, h =>
  simp [hasPrefix, List.isPrefixOf] at h
  obtain ⟨rfl, rfl⟩ := h
  simp [gap, wsB]
theorem gap_none {l : List UInt8} (h : hasPrefix l [47, 47] = false) (hw : ∀ c r, l = c :: r → wsB c = false) : gap false l = 0 := by
 match l, h with
 | [], _ => rfl
 | c :: r, h =>
  have := hw c r rfl
  simp only [gap, this, Bool.false_eq_true, if_false]
  rw [if_neg]
  rintro ⟨rfl, h2⟩
  cases r with
  | nil => simp at h2
  | cons b r => simp at h2; subst h2; simp [hasPrefix, List.isPrefixOf] at h
/-- In a comment up to a line's end. -/
theorem gap_line : ∀ (l : List UInt8), if indexByte l 10 = -1 then gap true l = l.length else ∃ n : Nat, indexByte l 10 = n ∧ n < l.length ∧ gap true l = n + gap false (l.drop n)
 | [] => by simp [indexByte, gap]
 | c :: r => by
  have ih := gap_line r
  have hge := indexByte_ge r 10
  by_cases hc : c = 10
  ·subst hc
   have hi : indexByte (10 :: r) 10 = 0 := by simp [indexByte]
   rw [if_neg (by omega)]
   refine ⟨0, by simp [indexByte], by simp, ?_⟩
   simp [gap, wsB]
  ·have hc' : (c == 10) = false := by simpa using hc
   by_cases hn : indexByte r 10 = -1
   ·rw [if_pos hn] at ih
    have hi : indexByte (c :: r) 10 = -1 := by simp [indexByte, hc', hn]
    rw [if_pos hi]
    simp only [gap, if_neg hc, ih, List.length_cons]
   ·rw [if_neg hn] at ih
    obtain ⟨n, h1, h2, h3⟩ := ih
    have hi : indexByte (c :: r) 10 = (n + 1 : Nat) := by simp [indexByte, hc', hn, h1]
    rw [if_neg (by omega)]
    refine ⟨n + 1, hi, by simp; omega, ?_⟩
    simp only [gap, if_neg hc, h3, List.drop_succ_cons]
    omega
/-- What is left from a place on. -/
def gapAt (s : ByteArray) (k : Nat) : Nat := k + gap false (s.data.toList.drop k)
theorem gapAt_ws {s : ByteArray} {k : Nat} (h : k < s.size) (hw : wsB s[k] = true) : gapAt s (k + 1) = gapAt s k := by
 unfold gapAt
 rw [drop_cons s h]
 simp only [gap, hw, if_true]
 omega
theorem gapAt_end {s : ByteArray} {k : Nat} (h : ¬ k < s.size) : gapAt s k = k := by
 unfold gapAt
 rw [List.drop_eq_nil_of_le (by rw [← size_eq]; omega)]
 rfl
theorem gapAt_stop {s : ByteArray} {k : Nat} (h : k < s.size) (hw : wsB s[k] = false) (hp : hasPrefix (s.data.toList.drop k) [47, 47] = false) : gapAt s k = k := by
 unfold gapAt
 rw [gap_none hp (fun c r e => by rw [drop_cons s h] at e; injection e with e1 e2; rw [← e1]; exact hw)]
 rfl
theorem gapAt_eof {s : ByteArray} {k : Nat} (h : k ≤ s.size) (hp : hasPrefix (s.data.toList.drop k) [47, 47] = true) (hi : indexByte (s.data.toList.drop k) 10 = -1) : gapAt s k = s.size := by
 have := gap_line (s.data.toList.drop k)
 rw [if_pos hi] at this
 unfold gapAt
 rw [gap_open hp, this, List.length_drop, ← size_eq]
 omega
theorem gapAt_line {s : ByteArray} {k : Nat} (h : k ≤ s.size) (hp : hasPrefix (s.data.toList.drop k) [47, 47] = true) (hi : indexByte (s.data.toList.drop k) 10 ≠ -1) : ∃ n : Nat, indexByte (s.data.toList.drop k) 10 = n ∧ k + n < s.size ∧ 1 ≤ n ∧ gapAt s (k + n) = gapAt s k := by
 have := gap_line (s.data.toList.drop k)
 rw [if_neg hi] at this
 obtain ⟨n, h1, h2, h3⟩ := this
 rw [List.length_drop, ← size_eq] at h2
 have h0 : n ≠ 0 := by
  rintro rfl
  match hl : s.data.toList.drop k, hp, h1 with
  | [], hp, _ => simp [hasPrefix, List.isPrefixOf] at hp
  | [a], hp, _ => simp [hasPrefix, List.isPrefixOf] at hp
  | a :: b :: r, hp, h1 =>
   simp [hasPrefix, List.isPrefixOf] at hp
   obtain ⟨rfl, rfl⟩ := hp
   have hge := indexByte_ge r 10
   by_cases hd : indexByte r 10 = -1
   ·simp [indexByte, hd] at h1
   ·have hd1 : indexByte r 10 + 1 ≠ -1 := by omega
    simp [indexByte, hd, hd1] at h1
    omega
 refine ⟨n, h1, by omega, by omega, ?_⟩
 unfold gapAt
 rw [gap_open hp, h3, List.drop_drop]
 omega
theorem ws_iff (c : UInt8) : wsB c = true ↔ ((c.toNat : Int) = 32 ∨ (c.toNat : Int) = 9 ∨ (c.toNat : Int) = 10) := by
 have h : ∀ n : UInt8, c = n ↔ (c.toNat : Int) = (n.toNat : Int) := fun n => ⟨fun e => by rw [e], fun e => UInt8.toNat_inj.1 (by omega)⟩
 have h1 := h 32
 have h2 := h 9
 have h3 := h 10
 simp only [wsB, Bool.or_eq_true, beq_iff_eq]
 rw [h1, h2, h3]
 show (_ = (32 : Int) ∨ _ = (9 : Int)) ∨ _ = (10 : Int) ↔ _
 omega
/-! Marks. -/
def longMarks : List (List UInt8) := [[38, 38, 38], [61, 61], [33, 61], [60, 61], [62, 61], [60, 60], [62, 62], [38, 38], [124, 124], [43, 43], [45, 62]]
def shortMarks : List UInt8 := [123, 125, 40, 41, 91, 93, 59, 58, 44, 61, 60, 62, 43, 45, 38, 124, 94, 126, 33, 46, 47]
/-- The mark that a text begins with; nothing: it has none. -/
def markF : List (List UInt8) → List UInt8 → List UInt8
 | [], l => if 0 ≤ indexByte shortMarks (l.headD 0) then l.take 1 else []
 | m :: r, l => if hasPrefix l m then m else markF r l
def markL (l : List UInt8) : List UInt8 := markF longMarks l
theorem bytes_ext {s t : ByteArray} (h : s.data.toList = t.data.toList) : s = t := by
 obtain ⟨⟨a⟩⟩ := s
 obtain ⟨⟨b⟩⟩ := t
 simp only at h
 rw [h]
theorem ext_one {s : ByteArray} (h : 0 < s.size) : s.extract 0 1 = ⟨#[s[0]]⟩ := by
 apply bytes_ext
 rw [ext_take]
 have := drop_cons s h
 rw [List.drop_zero] at this
 rw [this]; rfl
theorem head_eq {s : ByteArray} (h : 0 < s.size) : s.data.toList.headD 0 = s[0] := by
 have := drop_cons s h
 rw [List.drop_zero] at this
 rw [this]; rfl
end Go.Proofs.YtbjokgnnklcbcaaGreatDoor

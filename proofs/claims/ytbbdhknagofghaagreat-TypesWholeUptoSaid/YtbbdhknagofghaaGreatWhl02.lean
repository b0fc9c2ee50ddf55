import Derived.Lib.IndexMore
import Derived.Lib.IndexLaws
import Derived.Laws.Strings
import Derived.WideShapes
import Derived.Laws.StructEq
import Derived.Test.YtbbdhknagofghaaGreatWhl01
import Derived.StillTailTactics
import Derived.Deep.Quiet
set_option linter.all false
/-! Plain laws on names and keywords: no program in sight. -/
namespace Go.Proofs.YtbbdhknagofghaaGreat
open Go.Lib
def digitB (c : Int) : Bool := decide (48 ≤ c ∧ c ≤ 57)
def letterB (c : Int) : Bool := decide (97 ≤ c ∧ c ≤ 122 ∨ 65 ≤ c ∧ c ≤ 90 ∨ c = 95)
def wordB (c : Int) : Bool := digitB c || letterB c
/-- words, each with a blank behind -/
def spaced : List (List UInt8) → List UInt8
 | [] => []
 | w :: r => w ++ 32 :: spaced r
theorem index_skip (x : List UInt8) : ∀ (w r : List UInt8), (32 : UInt8) ∉ w → (0 ≤ index (w ++ r) (32 :: x) ↔ 0 ≤ index r (32 :: x))
 | [], r, _ => by simp
 | b :: w, r, h => by
  simp only [List.mem_cons, not_or] at h
  have ih := index_skip x w r h.2
  have g := index_ge (w ++ r) (32 :: x)
  have hp : List.isPrefixOf (32 :: x) (b :: (w ++ r)) = false := by
   simp only [List.isPrefixOf, Bool.and_eq_false_iff, beq_eq_false_iff_ne]
   exact .inl h.1
  simp only [List.cons_append, index, hp, Bool.false_eq_true, if_false]
  by_cases e : index (w ++ r) (32 :: x) = -1
  ·simp [e] at ih ⊢; exact ih
  ·simp only [beq_iff_eq, e, if_false]; rw [← ih]; omega
theorem prefix_word : ∀ (s w : List UInt8) (r : List UInt8), (32 : UInt8) ∉ s → (32 : UInt8) ∉ w → (List.isPrefixOf (s ++ [32]) (w ++ 32 :: r) = true ↔ s = w)
 | [], [], r, _, _ => by simp [List.isPrefixOf]
 | [], b :: w, r, _, hw => by
  simp only [List.mem_cons, not_or] at hw
  simp [List.isPrefixOf, hw.1]
 | a :: s, [], r, hs, _ => by
  simp only [List.mem_cons, not_or] at hs
  simp [List.isPrefixOf]
  intro e; exact absurd e.symm hs.1
 | a :: s, b :: w, r, hs, hw => by
  simp only [List.mem_cons, not_or] at hs hw
  have ih := prefix_word s w r hs.2 hw.2
  simp [List.isPrefixOf] at ih ⊢
  intro _; exact ih
theorem spaced_index (s : List UInt8) (hs : (32 : UInt8) ∉ s) (hne : s ≠ []) : ∀ ws : List (List UInt8), (∀ w ∈ ws, (32 : UInt8) ∉ w) →
  (0 ≤ index (32 :: spaced ws) (32 :: (s ++ [32])) ↔ s ∈ ws)
 | [], _ => by
  cases s with
  | nil => exact absurd rfl hne
  | cons a s => simp [spaced, index, List.isPrefixOf]
 | w :: r, hw => by
  have ih := spaced_index s hs hne r (fun x hx => hw x (List.mem_cons_of_mem _ hx))
  have hww := hw w List.mem_cons_self
  have hp := prefix_word s w (spaced r) hs hww
  have hk := index_skip (s ++ [32]) w (32 :: spaced r) hww
  have g := index_ge (w ++ 32 :: spaced r) (32 :: (s ++ [32]))
  have hq : List.isPrefixOf (32 :: (s ++ [32])) (32 :: (w ++ 32 :: spaced r)) = List.isPrefixOf (s ++ [32]) (w ++ 32 :: spaced r) := by simp [List.isPrefixOf]
  simp only [spaced]
  unfold index
  rw [hq]
  by_cases e : s = w
  ·rw [hp.2 e]; simp [e]
  ·have : List.isPrefixOf (s ++ [32]) (w ++ 32 :: spaced r) = false := by
    rw [Bool.eq_false_iff]; exact fun h => e (hp.1 h)
   rw [this]
   simp only [Bool.false_eq_true, if_false, List.mem_cons, e, false_or]
   rw [← ih, ← hk]
   by_cases e2 : index (w ++ 32 :: spaced r) (32 :: (s ++ [32])) = -1
   ·simp [e2]
   ·simp only [beq_iff_eq, e2, if_false]; omega
theorem index_one (s : List UInt8) : 0 ≤ index s [32] ↔ (32 : UInt8) ∈ s := by
 induction s with
 | nil => simp [index]
 | cons b l ih =>
  have g := index_ge l [32]
  by_cases e : b = 32
  ·simp [index, List.isPrefixOf, e]
  ·have e' : ¬ (32 : UInt8) = b := fun h => e h.symm
   simp only [index, List.isPrefixOf, Bool.and_true, beq_iff_eq, e', if_false, List.mem_cons, false_or, ← ih]
   by_cases e2 : index l [32] = -1
   ·simp [e2]
   ·simp only [e2, if_false]; omega
def kws : List (List UInt8) := ["header", "metadata", "bit", "parser", "state", "extract", "transition", "select", "accept", "reject", "default", "action", "table", "key", "actions", "exact", "lpm", "ternary", "control", "apply", "if", "else", "drop", "forward", "valid", "invalid", "deparser", "emit", "meta", "port", "isValid", "_"].map fun s => s.toUTF8.data.toList
def kwB (s : ByteArray) : Bool := decide (s.data.toList ∈ kws)
def nameB (s : ByteArray) : Bool := decide (1 ≤ s.size ∧ s.size ≤ 16) && !digitB ((s.data.toList.headD 0).toNat) && !kwB s && s.data.toList.all fun c => wordB c.toNat
theorem kws_blank : ∀ w ∈ kws, (32 : UInt8) ∉ w := by decide +kernel
theorem kws_empty : [] ∉ kws := by decide +kernel
theorem kw_iff (s : List UInt8) (t : List UInt8) (ht : t = 32 :: spaced kws) :
  (s ≠ [] ∧ contains s [32] = false ∧ contains t (32 :: (s ++ [32])) = true) ↔ s ∈ kws := by
 subst ht
 unfold contains
 have h1 := index_one s
 constructor
 ·rintro ⟨hne, hb, hc⟩
  simp only [decide_eq_false_iff_not, decide_eq_true_eq] at hb hc
  exact (spaced_index s (fun h => hb (h1.2 h)) hne kws kws_blank).1 hc
 ·intro h
  have hb := kws_blank s h
  have hne : s ≠ [] := fun e => kws_empty (e ▸ h)
  refine ⟨hne, ?_, ?_⟩
  ·simp only [decide_eq_false_iff_not]; exact fun g => hb (h1.1 g)
  ·simp only [decide_eq_true_eq]; exact (spaced_index s hb hne kws kws_blank).2 h
theorem kwB_empty {s : ByteArray} (h : s.toList = []) : kwB s = false := by
 rw [ByteArray.toList_eq] at h
 simp only [kwB, h, decide_eq_false_iff_not]; exact kws_empty
theorem kwB_blank {s : ByteArray} (hb : contains s.data.toList (ByteArray.mk #[32]).data.toList = true) : kwB s = false := by
 have h1 : (32 : UInt8) ∈ s.data.toList := (index_one _).1 (by simpa [contains] using hb)
 simp only [kwB, decide_eq_false_iff_not]; exact fun h => kws_blank _ h h1
theorem kwB_eq (s : ByteArray) (C : List UInt8) (hC : C = 32 :: spaced kws) (h0 : ¬ s.toList = []) (hb : contains s.data.toList (ByteArray.mk #[32]).data.toList = false) :
  contains C (ByteArray.mk #[32] ++ s ++ ByteArray.mk #[32]).data.toList = kwB s := by
 rw [ByteArray.toList_eq] at h0
 have e : (ByteArray.mk #[32] ++ s ++ ByteArray.mk #[32]).data.toList = 32 :: (s.data.toList ++ [32]) := by simp
 have := kw_iff s.data.toList C hC
 rw [Bool.eq_iff_iff, e, kwB, decide_eq_true_eq, ← this]
 exact ⟨fun h => ⟨h0, hb, h⟩, fun h => h.2.2⟩
def wlenL (l : List UInt8) : Nat := (l.takeWhile fun c => wordB c.toNat).length
theorem wlenL_succ : ∀ (l : List UInt8) (k : Nat) (hk : k < l.length), k ≤ wlenL l → wordB (l[k].toNat : Nat) = true → k + 1 ≤ wlenL l
 | [], k, hk, _, _ => absurd hk (by simp)
 | c :: l, 0, _, _, hw => by simp at hw; simp [wlenL, hw]
 | c :: l, k + 1, hk, hl, hw => by
  by_cases hc : wordB (c.toNat : Nat) = true
  ·have ih := wlenL_succ l k (by simpa using hk) (by simpa [wlenL, hc] using hl) (by simpa using hw)
   simpa [wlenL, hc] using ih
  ·simp [wlenL, hc] at hl
theorem wlenL_stop : ∀ (l : List UInt8) (k : Nat) (hk : k < l.length), k ≤ wlenL l → wordB (l[k].toNat : Nat) = false → wlenL l = k
 | [], k, hk, _, _ => absurd hk (by simp)
 | c :: l, 0, _, _, hw => by simp at hw; simp [wlenL, hw]
 | c :: l, k + 1, hk, hl, hw => by
  by_cases hc : wordB (c.toNat : Nat) = true
  ·have ih := wlenL_stop l k (by simpa using hk) (by simpa [wlenL, hc] using hl) (by simpa using hw)
   simpa [wlenL, hc] using ih
  ·simp [wlenL, hc] at hl
theorem wlenL_le : ∀ l : List UInt8, wlenL l ≤ l.length
 | [] => by simp [wlenL]
 | c :: l => by
  have := wlenL_le l
  by_cases hc : wordB (c.toNat : Nat) = true <;> simp [wlenL, hc] at this ⊢; exact this
theorem wlenL_all : ∀ l : List UInt8, wlenL l = l.length ↔ l.all (fun c => wordB c.toNat) = true
 | [] => by simp [wlenL]
 | c :: l => by
  have := wlenL_all l
  by_cases hc : wordB (c.toNat : Nat) = true <;> simp [wlenL, hc] at this ⊢; exact this
def wlen (s : ByteArray) : Nat := wlenL s.data.toList
theorem wlen_succ {s : ByteArray} {k : Nat} (hk : k < s.size) (h : k ≤ wlen s) (hw : wordB (s[k].toNat : Nat) = true) : k + 1 ≤ wlen s :=
 wlenL_succ _ k (by simpa using hk) h hw
theorem wlen_stop {s : ByteArray} {k : Nat} (hk : k < s.size) (h : k ≤ wlen s) (hw : wordB (s[k].toNat : Nat) = false) : wlen s = k :=
 wlenL_stop _ k (by simpa using hk) h hw
theorem wlen_le (s : ByteArray) : wlen s ≤ s.size := by have := wlenL_le s.data.toList; simpa [wlen] using this
theorem wlen_end {s : ByteArray} {k : Nat} (hk : k ≤ s.size) (hn : ¬ k < s.size) (h : k ≤ wlen s) : wlen s = k := by have := wlen_le s; omega
theorem wlen_self (s : ByteArray) : ((s.extract 0 (wlen s)).toList == s.toList) = s.data.toList.all fun c => wordB c.toNat := by
 have ha := wlenL_all s.data.toList
 have hl := wlen_le s
 rw [Bool.eq_iff_iff, ← ha, ByteArray.toList_eq, ByteArray.toList_eq, beq_iff_eq]
 constructor
 ·intro h
  have := congrArg List.length h
  simp at this
  simp [wlen] at this hl ⊢; omega
 ·intro h
  have e : wlen s = s.size := by simpa [wlen] using h
  rw [e]; simp
theorem isEmpty_false {s : ByteArray} (h : 0 < s.size) : s.toList.isEmpty = false := by
 rw [ByteArray.toList_eq]
 have : s.data.toList.length = s.size := by simp
 cases he : s.data.toList with
 | nil => rw [he] at this; simp at this; omega
 | cons a l => rfl
theorem isEmpty_true {s : ByteArray} (h : ¬ 0 < s.size) : s.toList.isEmpty = true := by
 rw [ByteArray.toList_eq]
 have : s.data.toList.length = s.size := by simp
 cases he : s.data.toList with
 | nil => rfl
 | cons a l => rw [he] at this; simp at this; omega
theorem headD_eq {s : ByteArray} (h : 0 < s.size) : s.data.toList.headD 0 = s[0] := by
 have e : s[0] = s.data.toList[0]'(by simpa using h) := by simp; rfl
 have g : ∀ (l : List UInt8) (hl : 0 < l.length), l.headD 0 = l[0] := fun l hl => by
  cases l with
  | nil => simp at hl
  | cons a l => simp
 rw [e]; exact g _ _
theorem nameB_eq (s : ByteArray) : nameB s = (((s.extract 0 (wlen s)).toList == s.toList) && !s.toList.isEmpty && decide (s.size ≤ 16) && !digitB ((s.data.toList.headD 0).toNat : Nat) && !kwB s) := by
 rw [wlen_self]
 by_cases h0 : 0 < s.size
 ·rw [isEmpty_false h0]
  have : (decide (1 ≤ s.size ∧ s.size ≤ 16)) = decide (s.size ≤ 16) := by simp; omega
  rw [nameB, this]
  cases s.data.toList.all fun c => wordB (c.toNat : Nat) <;> simp
 ·rw [isEmpty_true h0]
  have : (decide (1 ≤ s.size ∧ s.size ≤ 16)) = false := by simp; omega
  rw [nameB, this]; simp
instance : LawfulBEq ByteArray where
 eq_of_beq {a b} h := by rw [Go.beq_toListBytes, beq_iff_eq, ByteArray.toList_eq, ByteArray.toList_eq] at h; exact Go.WideShapes.bytes_inj h
 rfl {a} := by rw [Go.beq_toListBytes, beq_iff_eq]
end Go.Proofs.YtbbdhknagofghaaGreat
/-! Plain: which programs may be, what names mean, a program's items, and what is wrong with one. -/
namespace Go.Proofs.YtbbdhknagofghaaGreat
def strE : ByteArray := ByteArray.mk #[]
def accS : ByteArray := ByteArray.mk #[97, 99, 99, 101, 112, 116]
def rejS : ByteArray := ByteArray.mk #[114, 101, 106, 101, 99, 116]
def zLt : Lt := (0, 0, 0)
def zEx : Ex := .mk 0 zLt strE strE 0 0 []
def zSt : St := .mk 0 strE strE zEx [] []
def numV (l : Lt) : Int := l.2.1 * 18446744073709551616 + l.2.2
def fitsB (w : Int) (l : Lt) : Bool := decide (numV l < 2 ^ w.toNat)
def widthB (w : Int) : Bool := decide (1 ≤ w ∧ w ≤ 128)
def litB (l : Lt) : Bool := decide (l.1 = 0) || (widthB l.1 && fitsB l.1 l)
def targetB (s : ByteArray) : Bool := decide (s = accS) || (decide (s = rejS) || nameB s)
/-- What an expression of a kind has: head, name, number, ends; and how many arguments. -/
def formOf (op : Int) : Option ((Bool × Bool × Bool × Bool) × Int) :=
 if op = 1 then some ((false, false, true, false), 0) else if op = 2 then some ((true, true, false, false), 0) else if op = 3 ∨ op = 4 then some ((false, true, false, false), 0)
 else if op = 5 then some ((false, false, false, false), 0) else if op = 6 then some ((true, false, false, false), 0) else if 7 ≤ op ∧ op ≤ 9 then some ((false, false, false, false), 1)
 else if op = 10 then some ((false, false, false, true), 1) else if 11 ≤ op ∧ op ≤ 26 then some ((false, false, false, false), 2) else none
def namedB (s : ByteArray) (asked : Bool) : Bool := if asked then nameB s else decide (s = strE)
def oneB (op : Int) (lit : Lt) (head name : ByteArray) (hi lo : Int) (n : Nat) : Bool :=
 match formOf op with
 | none => false
 | some ((h, nm, l, en), a) => decide ((n : Int) = a) && namedB head h && namedB name nm && (if l then litB lit else decide (lit = zLt)) && (if en then decide (0 ≤ lo ∧ lo ≤ hi ∧ hi < 128) else decide (hi = 0 ∧ lo = 0))
def byB : Ex → Bool
 | .mk op lit _ _ _ _ _ => decide (op = 1) && decide (lit.1 = 0) && decide (numV lit ≤ 127)
def shB (op : Int) (args : List Ex) : Bool := if op = 14 ∨ op = 15 then (args[1]?).elim false byB else true
mutual
def allE : Ex → Bool
 | .mk op lit head name hi lo args => oneB op lit head name hi lo args.length && shB op args && allL args
def allL : List Ex → Bool
 | [] => true
 | x :: l => allE x && allL l
end
def mayE (e : Ex) : Bool := decide (depthE e ≤ 16) && allE e
def noEx : Ex → Bool
 | .mk op lit head name hi lo args => decide (op = 0) && decide (lit = zLt) && decide (head = strE) && decide (name = strE) && decide (hi = 0) && decide (lo = 0) && args.isEmpty
mutual
def mayS : St → Nat → Bool
 | .mk kind head name e thn els, deep =>
  if kind = 1 then thn.isEmpty && els.isEmpty && (decide (head = strE) || nameB head) && nameB name && mayE e
  else if kind = 2 then decide (head = strE) && decide (name = strE) && mayE e && (thn.isEmpty || (decide (deep + 1 ≤ 8) && decide (thn.length ≤ 32) && mayL thn (deep + 1))) && (els.isEmpty || (decide (deep + 1 ≤ 8) && decide (els.length ≤ 32) && mayL els (deep + 1)))
  else if kind = 3 then thn.isEmpty && els.isEmpty && decide (head = strE) && nameB name && noEx e
  else if kind = 4 then thn.isEmpty && els.isEmpty && decide (head = strE) && decide (name = strE) && noEx e
  else if kind = 5 then thn.isEmpty && els.isEmpty && decide (head = strE) && decide (name = strE) && mayE e
  else if kind = 6 ∨ kind = 7 then thn.isEmpty && els.isEmpty && nameB head && decide (name = strE) && noEx e
  else false
def mayL : List St → Nat → Bool
 | [], _ => true
 | s :: l, deep => mayS s deep && mayL l deep
end
def mayBlk (l : List St) (deep : Nat) : Bool := l.isEmpty || (decide (deep ≤ 8) && decide (l.length ≤ 32) && mayL l deep)
theorem allL_all : ∀ l : List Ex, allL l = l.all allE
 | [] => rfl
 | x :: l => by simp only [allL, List.all_cons, allL_all l]
theorem mayL_all (deep : Nat) : ∀ l : List St, mayL l deep = l.all fun s => mayS s deep
 | [] => rfl
 | x :: l => by simp only [mayL, List.all_cons, mayL_all deep l]
def fdB (f : Fd) : Bool := nameB f.1 && widthB f.2
def hdB (h : Hd) : Bool := nameB h.name && decide (1 ≤ h.fields.length ∧ h.fields.length ≤ 16) && h.fields.all fdB
def seB (s : Se) : Bool := if s.kind = 1 then decide (s.v = zLt) && decide (s.m = zLt) else if s.kind = 2 then litB s.v && decide (s.m = zLt) else if s.kind = 3 then litB s.v && litB s.m else false
def caB (keys : Nat) (c : Ca) : Bool := targetB c.dest && decide (c.sets.length = if c.dflt then 0 else keys) && c.sets.all seB
def saB (s : Sa) : Bool :=
 nameB s.name && decide (s.takes.length ≤ 8) && s.takes.all nameB && if s.dest = strE then decide (1 ≤ s.keys.length ∧ s.keys.length ≤ 4 ∧ 1 ≤ s.cases_.length ∧ s.cases_.length ≤ 16) && s.keys.all mayE && s.cases_.all (caB s.keys.length) else targetB s.dest && s.keys.isEmpty && s.cases_.isEmpty
def acB (a : Ac) : Bool := nameB a.name && decide (a.params.length ≤ 8) && a.params.all fdB && mayBlk a.body 1
def kyB (k : Ky) : Bool := mayE k.e && decide (1 ≤ k.kind ∧ k.kind ≤ 3)
def taB (t : Ta) : Bool := nameB t.name && decide (1 ≤ t.keys.length ∧ t.keys.length ≤ 4) && t.keys.all kyB && decide (1 ≤ t.actions.length ∧ t.actions.length ≤ 16) && t.actions.all nameB && nameB t.dname && decide (t.dargs.length ≤ 8) && t.dargs.all litB
def manyB (p : Pg) : Bool := decide (p.headers.length ≤ 8 ∧ p.metas.length ≤ 16 ∧ 1 ≤ p.states.length ∧ p.states.length ≤ 16 ∧ p.actions.length ≤ 16 ∧ p.tables.length ≤ 8 ∧ p.emit.length ≤ 8)
def mayP (p : Pg) : Bool := manyB p && p.headers.all hdB && p.metas.all fdB && p.states.all saB && p.actions.all acB && p.tables.all taB && mayBlk p.control 1 && p.emit.all nameB
/-! What names mean. -/
def headerI (p : Pg) (s : ByteArray) : Int := findI (p.headers.map Hd.name) s
def fieldsI (l : List Fd) (s : ByteArray) : Int := findI (l.map Prod.fst) s
def fieldI (p : Pg) (h : Int) (s : ByteArray) : Int := if h < 0 then -1 else (p.headers[h.toNat]?).elim (-1) fun x => fieldsI x.fields s
def metaI (p : Pg) (s : ByteArray) : Int := fieldsI p.metas s
def stateR (p : Pg) (s : ByteArray) : Int := findI (p.states.map Sa.name) s
def stateI (p : Pg) (s : ByteArray) : Int := if s = accS then -1 else if s = rejS then -2 else max (stateR p s) 0
def stateB (p : Pg) (s : ByteArray) : Bool := if s = accS then true else if s = rejS then true else decide (0 ≤ stateR p s)
def actionI (p : Pg) (s : ByteArray) : Int := findI (p.actions.map Ac.name) s
def paramI (p : Pg) (a : Int) (s : ByteArray) : Int := if a < 0 then -1 else (p.actions[a.toNat]?).elim (-1) fun x => fieldsI x.params s
def tableI (p : Pg) (s : ByteArray) : Int := findI (p.tables.map Ta.name) s
def bitsI (h : Hd) : Int := (h.fields.map Prod.snd).sum
def isI (b : Bool) (e : Int) : Int := if b then e else 0
def eitherI (e f : Int) : Int := if e = 0 then f else e
def ownB (p : Pg) (act : Int) (op : Int) (head name : ByteArray) : Bool :=
 if op = 2 then decide (0 ≤ fieldI p (headerI p head) name) else if op = 3 then decide (0 ≤ metaI p name) else if op = 4 then decide (0 ≤ paramI p act name) else if op = 6 then decide (0 ≤ headerI p head) else true
mutual
def thereE (p : Pg) (act : Int) : Ex → Bool
 | .mk op _ head name _ _ args => ownB p act op head name && thereL p act args
def thereL (p : Pg) (act : Int) : List Ex → Bool
 | [] => true
 | x :: l => thereE p act x && thereL p act l
end
theorem thereL_all (p : Pg) (act : Int) : ∀ l : List Ex, thereL p act l = l.all (thereE p act)
 | [] => rfl
 | x :: l => by simp only [thereL, List.all_cons, thereL_all p act l]
def namesI (p : Pg) (act : Int) (e : Ex) : Int := isI (!thereE p act e) 7
/-! Items. -/
structure It where
 kind : Int
 a : Int
 b : Int
 s : St
mutual
def itemsS (a : Int) : St → List It
 | .mk kind head name e thn els => ⟨10, a, 0, .mk kind head name e thn els⟩ :: (itemsL a thn ++ itemsL a els)
def itemsL (a : Int) : List St → List It
 | [] => []
 | s :: l => itemsS a s ++ itemsL a l
end
theorem itemsL_flat (a : Int) : ∀ l : List St, itemsL a l = l.flatMap (itemsS a)
 | [] => rfl
 | s :: l => by simp only [itemsL, List.flatMap_cons, itemsL_flat a l]
def manyI (kind : Int) (a : Nat) (n : Nat) : List It := (List.range n).map fun (i : Nat) => ⟨kind, (a : Int), (i : Int), zSt⟩
def eachI {α : Type} (kind : Int) (l : List α) (g : Nat → α → List It) : List It := l.zipIdx.flatMap fun x => ⟨kind, (x.2 : Int), 0, zSt⟩ :: g x.2 x.1
def headsI (p : Pg) : List It := eachI 1 p.headers fun i h => manyI 2 i h.fields.length
def metasI (p : Pg) : List It := eachI 3 p.metas fun _ _ => []
def statesI (p : Pg) : List It := eachI 4 p.states fun i s => manyI 5 i s.takes.length ++ (⟨6, (i : Int), 0, zSt⟩ :: manyI 7 i s.cases_.length)
def actsI (p : Pg) : List It := eachI 8 p.actions fun i a => manyI 9 i a.params.length ++ itemsL i a.body
def tabsI (p : Pg) : List It := eachI 11 p.tables fun i t => manyI 12 i t.keys.length ++ (manyI 13 i t.actions.length ++ [⟨14, (i : Int), 0, zSt⟩])
def emitsI (p : Pg) : List It := eachI 15 p.emit fun _ _ => []
def itemsP (p : Pg) : List It := headsI p ++ (metasI p ++ (statesI p ++ (actsI p ++ (tabsI p ++ (itemsL (-1) p.control ++ emitsI p)))))
/-! What is wrong with an item. -/
def stmtI (p : Pg) (act : Int) : St → Int
 | .mk kind head name e _ _ =>
  if kind = 3 then eitherI (isI (decide (0 ≤ act)) 9) (isI (decide (tableI p name < 0)) 7)
  else if kind = 6 ∨ kind = 7 then isI (decide (headerI p head < 0)) 7
  else if kind = 4 then 0
  else if kind = 1 then eitherI (isI (if head = strE then decide (metaI p name < 0) else decide (fieldI p (headerI p head) name < 0)) 7) (namesI p act e)
  else namesI p act e
def fixedI (p : Pg) (t : Ta) : Int :=
 if t.dname ∈ t.actions then if actionI p t.dname < 0 then 7 else eitherI (isI (decide ((t.dargs.length : Int) < ((p.actions[(actionI p t.dname).toNat]?).elim 0 fun a => a.params.length : Nat))) 13) (isI (decide (((p.actions[(actionI p t.dname).toNat]?).elim 0 fun a => a.params.length : Nat) < (t.dargs.length : Int))) 5) else 7
def toI (p : Pg) (s : ByteArray) : Int := isI (!stateB p s) 7
def nextI (p : Pg) (s : Sa) : Int := if s.dest = strE then isI (!s.keys.all (thereE p (-1))) 7 else toI p s.dest
def checkI (p : Pg) (x : It) : Int :=
 if x.kind = 1 then (p.headers[x.a.toNat]?).elim 0 fun h => eitherI (isI (decide (headerI p h.name < x.a)) 8) (isI (decide (bitsI h % 8 ≠ 0) || decide (256 < bitsI h)) 10)
 else if x.kind = 2 then (p.headers[x.a.toNat]?).elim 0 fun h => (h.fields[x.b.toNat]?).elim 0 fun f => isI (decide (fieldI p x.a f.1 < x.b)) 8
 else if x.kind = 3 then (p.metas[x.a.toNat]?).elim 0 fun f => isI (decide (metaI p f.1 < x.a)) 8
 else if x.kind = 4 then (p.states[x.a.toNat]?).elim 0 fun s => isI (decide (stateI p s.name < x.a)) 8
 else if x.kind = 5 then (p.states[x.a.toNat]?).elim 0 fun s => (s.takes[x.b.toNat]?).elim 0 fun h => isI (decide (headerI p h < 0)) 7
 else if x.kind = 6 then (p.states[x.a.toNat]?).elim 0 fun s => nextI p s
 else if x.kind = 7 then (p.states[x.a.toNat]?).elim 0 fun s => (s.cases_[x.b.toNat]?).elim 0 fun c => toI p c.dest
 else if x.kind = 8 then (p.actions[x.a.toNat]?).elim 0 fun a => isI (decide (actionI p a.name < x.a)) 8
 else if x.kind = 9 then (p.actions[x.a.toNat]?).elim 0 fun a => (a.params[x.b.toNat]?).elim 0 fun f => isI (decide (paramI p x.a f.1 < x.b)) 8
 else if x.kind = 10 then stmtI p x.a x.s
 else if x.kind = 11 then (p.tables[x.a.toNat]?).elim 0 fun t => isI (decide (tableI p t.name < x.a)) 8
 else if x.kind = 12 then (p.tables[x.a.toNat]?).elim 0 fun t => (t.keys[x.b.toNat]?).elim 0 fun k => namesI p (-1) k.e
 else if x.kind = 13 then (p.tables[x.a.toNat]?).elim 0 fun t => (t.actions[x.b.toNat]?).elim 0 fun a => eitherI (isI (decide (actionI p a < 0)) 7) (isI (decide (findI t.actions a < x.b)) 8)
 else if x.kind = 14 then (p.tables[x.a.toNat]?).elim 0 fun t => fixedI p t
 else (p.emit[x.a.toNat]?).elim 0 fun h => eitherI (isI (decide (headerI p h < 0)) 7) (isI (decide (findI p.emit h < x.a)) 8)
/-- What Check tells. -/
def firstBad (p : Pg) : List It → Nat → Int × Int
 | [], n => (n, 0)
 | x :: l, n => if checkI p x = 0 then firstBad p l (n + 1) else (n, checkI p x)
def checkR (p : Pg) : Int × Int := if mayP p then firstBad p (itemsP p) 0 else (-1, 2)
end Go.Proofs.YtbbdhknagofghaaGreat
/-! Plain: types of expressions, and what is wrong with an item. -/
namespace Go.Proofs.YtbbdhknagofghaaGreat
structure Ty where
 w : Int
 truth : Bool
 free : Bool
abbrev Rs (α : Type) := Except Int α
def bitsR (t : Ty) : Rs Ty := if t.truth then .error 9 else if t.free then .error 10 else .ok t
mutual
def fitsE (w : Int) : Ex → Bool
 | .mk op lit _ _ _ _ args => if op = 1 then fitsB w lit else fitsL w args
def fitsL (w : Int) : List Ex → Bool
 | [] => true
 | x :: l => fitsE w x && fitsL w l
end
def joinR (a b : Ex) (s t : Ty) : Rs Ty :=
 if s.truth || t.truth then .error 9 else if s.free && t.free then .error 10
 else if s.free then (if fitsE t.w a then .ok t else .error 5)
 else if t.free then (if fitsE s.w b then .ok s else .error 5)
 else if s.w = t.w then .ok s else .error 10
def fieldR (l : List Fd) (i : Int) : Rs Ty := if i < 0 then .error 7 else .ok ⟨(l[i.toNat]?).elim 0 Prod.snd, false, false⟩
def leafR (p : Pg) (act op : Int) (lit : Lt) (head name : ByteArray) : Rs Ty :=
 if op = 1 then .ok ⟨lit.1, false, decide (lit.1 = 0)⟩
 else if op = 2 then if headerI p head < 0 then .error 7 else fieldR ((p.headers[(headerI p head).toNat]?).elim [] Hd.fields) (fieldI p (headerI p head) name)
 else if op = 3 then fieldR p.metas (metaI p name)
 else if op = 4 then if paramI p act name < 0 then .error 7 else fieldR ((p.actions[act.toNat]?).elim [] Ac.params) (paramI p act name)
 else if op = 6 then if headerI p head < 0 then .error 7 else .ok ⟨0, true, false⟩
 else .ok ⟨9, false, false⟩
def oneR (op hi lo : Int) (t : Ty) : Rs Ty :=
 if op = 9 then if t.truth then .ok t else .error 9
 else if op = 10 then if t.truth then .error 9 else if t.free then .error 10 else if hi < t.w then .ok ⟨hi - lo + 1, false, false⟩ else .error 5
 else if t.truth then .error 9 else .ok t
def pairR (op : Int) (a b : Ex) (s t : Ty) : Rs Ty :=
 if op = 11 then (if s.truth then .error 9 else if s.free then .error 10 else if t.truth then .error 9 else if t.free then .error 10 else if s.w + t.w ≤ 128 then .ok ⟨s.w + t.w, false, false⟩ else .error 5)
 else if 25 ≤ op then (if s.truth && t.truth then .ok s else .error 9)
 else match joinR a b s t with
  | .error n => .error n
  | .ok j => if 19 ≤ op then .ok ⟨0, true, false⟩ else .ok j
def ofR (p : Pg) (act : Int) : Ex → Rs Ty
 | .mk op lit head name _ _ [] => leafR p act op lit head name
 | .mk op _ _ _ hi lo [a] => match ofR p act a with
  | .error n => .error n
  | .ok s => oneR op hi lo s
 | .mk op _ _ _ _ _ (a :: b :: _) => match ofR p act a with
  | .error n => .error n
  | .ok s => if op = 14 ∨ op = 15 then bitsR s else match ofR p act b with
   | .error n => .error n
   | .ok t => pairR op a b s t
/-- A type that is bits has a width that may be. -/
def okTy (t : Ty) : Prop := ¬ (t.truth = true ∧ t.free = true) ∧ (t.truth = false → t.free = false → 1 ≤ t.w ∧ t.w ≤ 128)
end Go.Proofs.YtbbdhknagofghaaGreat
/-! A region that draws its order: a head that only reads or calls, in whatever world has grown, and a tail in one forced order, which may write, or panic. -/
namespace Go.Proofs.YtbbdhknagofghaaGreat
open Go Go.RowKit
section
variable {P : Program} {ops : Array Oper} {md : Region.Mode} {C : World → Prop}
/-- Whatever order the head takes. -/
def headQ (P : Program) (md : Region.Mode) (ops : Array Oper) (C : World → Prop) (n : Nat) (L : Array Bool → Act → Prop) : Nat → Array Bool → Act → Prop
 | 0, listed, a => L listed a
 | f + 1, listed, a => Region.ready md ops listed ≠ [] ∧ ∀ i ∈ Region.ready md ops listed, i < n ∧ qOp P ops C i (headQ P md ops C n L f (listed.setIfInBounds i true)) a
theorem wpAny_of_headQ {n g : Nat} {L : Array Bool → Act → Prop} {Q : Exit → Act → World → Prop} (hL : ∀ listed a w, C w → L listed a → wpAny P md ops Q g listed a w) :
  ∀ (f : Nat) (listed : Array Bool) (a : Act) (w : World), C w → headQ P md ops C n L f listed a → wpAny P md ops Q (f + g) listed a w
 | 0, listed, a, w, hw, h => by rw [Nat.zero_add]; exact hL _ _ _ hw h
 | f + 1, listed, a, w, hw, h => by
  rw [Nat.add_right_comm]
  exact ⟨fun h0 => absurd h0 h.1, fun i hi => wpOp_of_qOp hw (fun a' w' hw' h' => wpAny_of_headQ hL f _ a' w' hw' h') (h.2 i hi).2⟩
theorem headQ_first {n i : Nat} {oi : Oper} {v : Value} {L : Array Bool → Act → Prop} (hi : ops[i]? = some oi) (hsel : ∀ (j : Nat) (o : Oper) cs b, ops[j]? = some o → o.op ≠ .select cs b)
  (hs : Region.sinkB md ops n = true) (hc : Region.chainB md ops n = true) (hn : n < ops.size) (hin : i < n) (hdone : ∀ listed a, L listed a → ∀ j ∈ Region.ready md ops listed, n ≤ j) :
  ∀ (f : Nat) (listed : Array Bool) (a : Act), HeadInv md ops n listed →
   (∀ j oj, ops[j]? = some oj → j ≠ i → listed.getD j true = false → (∀ e ∈ oj.after, Region.binds md e = true → e.on ≠ i) → oi.apart ops oj = true) →
   i ∈ Region.ready md ops listed → YieldsIn P ops C oi v a → headQ P md ops C n L f (listed.setIfInBounds i true) (a.put oi.dst v) → headQ P md ops C n L (f + 1) listed a := by
 intro f
 induction f with
 | zero =>
  intro listed a inv _ hr hy H
  refine ⟨fun h => (by rw [h] at hr; cases hr), fun j hj => ?_⟩
  have hjn : j < n := Nat.lt_of_not_le fun h => tail_waits hs hc hn inv _ i rfl hin (mem_ready.1 hr).1 j h hj
  by_cases e : j = i
  ·subst e; exact ⟨hjn, hy.qOp hi H⟩
  ·exact absurd (hdone _ _ H j (ready_mono hj e)) (by omega)
 | succ f ih =>
  intro listed a inv hfree hr hy H
  have hun := (mem_ready.1 hr).1
  refine ⟨fun h => (by rw [h] at hr; cases hr), fun j hj => ?_⟩
  have hjn : j < n := Nat.lt_of_not_le fun h => tail_waits hs hc hn inv _ i rfl hin hun j h hj
  by_cases e : j = i
  ·subst e; exact ⟨hjn, hy.qOp hi H⟩
  ·refine ⟨hjn, ?_⟩
   obtain ⟨hjun, oj, hoj, hall⟩ := mem_ready.1 hj
   have hnot : ∀ x ∈ oj.after, Region.binds md x = true → x.on ≠ i := fun x hx hb he => by
    have h1 := hall x hx hb
    rw [he, getD_both hun] at h1
    cases h1
   refine qOp_mono (fun a' h3 => ih _ a' (inv.set hj hjn) (fun k ok hk hki hu hno => hfree k ok hk hki ?_ hno) (ready_mono hr (Ne.symm e)) h3.1 ?_)
    (qOp_put hoj (hfree j oj hoj e hjun hnot) (fun cs b => hsel i oi cs b hi) (fun cs b => hsel j oj cs b hoj) hy (H.2 j (ready_mono hj e)).2)
   ·by_cases ejk : j = k
    ·subst ejk; exact hjun
    ·rw [getD_set_ne true ejk] at hu; exact hu
   ·rw [Array.setIfInBounds_comm _ _ e]
    exact h3.2
theorem headQ_lex {n g : Nat} {T : Act → Prop} (hsel : Region.noSelect ops = true) (hs : Region.sinkB md ops n = true) (hc : Region.chainB md ops n = true) (hn : n < ops.size) :
  ∀ (l : List Oper) (k : Nat) (listed : Array Bool) (a : Act), (∀ j, j < l.length → l[j]? = ops[k + j]?) → k + l.length = n → HeadInv md ops n listed → Region.lexHead md ops g l.length k listed = true → wpQuiet P ops C T l a →
   headQ P md ops C n (fun x y => Region.seqB md ops g n x = true ∧ T y) l.length listed a
 | [], k, listed, a, _, hk, _, hB, h => by
  obtain rfl : k = n := by simpa using hk
  exact ⟨by simpa [Region.lexHead] using hB, h⟩
 | o :: l, k, listed, a, hl, hk, inv, hB, h => by
  have h0 : ops[k]? = some o := by simpa using (hl 0 (by simp)).symm
  simp only [List.length_cons, Region.lexHead, Bool.and_eq_true] at hB
  rw [List.length_cons] at hk
  have hr : k ∈ Region.ready md ops listed := by simpa using hB.1.1
  obtain ⟨v, hy, hK⟩ := yieldsIn_of_qOp h0 (show qOp P ops C k (wpQuiet P ops C T l) a from by unfold qOp; simp only [h0]; exact h)
  exact headQ_first h0 (Region.noSelect_spec hsel) hs hc hn (by omega) (fun _ _ hL => seqB_ready hL.1) l.length listed a inv (Region.free_spec h0 hB.1.2) hr hy
   (headQ_lex hsel hs hc hn l (k + 1) _ _ (fun j hj => by have := hl (j + 1) (by simpa using hj); simpa [Nat.add_assoc, Nat.add_comm 1 j] using this) (by omega) (inv.set hr (by omega)) hB.2 hK)
end
/-- The first n operations read, or call what lays memory; the others follow in one order. -/
theorem wp_region_quiet_tail {P : Program} {id : Nat} {Q : Exit → Act → World → Prop} {a : Act} {w : World} {l : List Oper} (n : Nat) (hm : P.follows .mixedOrders = true) (hB : Region.lexTailB .any l.toArray n = true)
  (h : wpQuiet P l.toArray (fun w' => ∃ p : Regrown, w' = Go.Sort.grow (redrawn w p.d) p.os) (fun a' => ∀ w', Below w.heap.size w w' → wpList P l.toArray Q (l.drop n) a' w') (l.take n) a) : (Code.region id l.toArray true).wp P Q a w := by
 simp only [Region.lexTailB, Bool.and_eq_true, decide_eq_true_eq] at hB
 obtain ⟨⟨⟨⟨hsel, hn⟩, hs⟩, hc⟩, hlex⟩ := hB
 have htl : (l.take n).length = n := by simp at hn ⊢; omega
 have hdl : (l.drop n).length = l.toArray.size - n := by simp
 have inv0 : HeadInv .any l.toArray n (Array.replicate l.toArray.size false) :=
  ⟨by simp, fun j oj _ hl => (by rw [getD_replicate_false] at hl; cases hl), fun t _ ht => getD_in (by simpa using ht) (getD_replicate_false _ _)⟩
 refine wp_region_any hm ?_
 have H := headQ_lex (md := .any) (g := l.toArray.size - n) hsel hs hc hn (l.take n) 0 _ a (fun j hj => by rw [htl] at hj; simp [hj]) (by simpa using htl) inv0 (by rw [htl]; exact hlex) h
 have := wpAny_of_headQ (Q := Q) (g := l.toArray.size - n) (fun listed a' w' hw hL => by
  have := wpAny_of_seq (md := .any) (Q' := Q) (l.drop n) n listed a' w' (fun j => by simp [List.getElem?_drop]) (by rw [hdl]; exact hL.1) (hL.2 w' (below_of_regrown hw))
  rwa [hdl] at this) _ _ _ { w with drawn := w.drawn + 1 } ⟨⟨w.drawn + 1, #[]⟩, by rw [Go.Sort.grow_empty]; rfl⟩ H
 rwa [htl, show n + (l.toArray.size - n) = l.toArray.size by omega] at this
end Go.Proofs.YtbbdhknagofghaaGreat

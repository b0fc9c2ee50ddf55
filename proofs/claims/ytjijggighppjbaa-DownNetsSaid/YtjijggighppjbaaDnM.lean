import Derived.Test.YtjijggighppjbaaDnH
import Derived.WideKeyRuns
/-! A map from ends to numbers, that the call makes: its rows as a list. -/
namespace Go.Proofs.Ytjijggighppjbaa
open Go.RowKit
theorem run_equal_end (a b : Int × Int) (w : World) : (Op.equal 38 (endV a) (endV b)).run Try.prog w = .ok (decide (a = b)) w := by
  obtain ⟨a1, a2⟩ := a
  obtain ⟨b1, b2⟩ := b
  by_cases h1 : a1 = b1
  · by_cases h2 : a2 = b2
    · subst h1 h2; simp [Op.equal, Op.maxDepth, endV]; go_simp
    · have : ¬ (a1, a2) = (b1, b2) := fun g => h2 (by injection g)
      simp [Op.equal, Op.maxDepth, endV]; go_simp
  · have : ¬ (a1, a2) = (b1, b2) := fun g => h1 (by injection g)
    simp [Op.equal, Op.maxDepth, endV]; go_simp
theorem run_check_end (a : Int × Int) (e : Bool) (w : World) : (Instr.checkKey e 10000 38 (endV a)).run Try.prog w = .ok () w := by
  obtain ⟨a1, a2⟩ := a
  simp only [endV]
  unfold Instr.checkKey
  go_simp
  have hk : ∀ (n : Nat) (x : Int) (w : World), (Instr.checkKey e (n + 1) 3 (.int .i64 x)).run Try.prog w = .ok () w := fun n x w => by
    simp [Instr.checkKey, run_underlying Try.underlying3]
  rw [hk 9998, Result.andThen_ok, hk 9998]
abbrev MM := List ((Int × Int) × Int)
def mL (o : Nat) (M : MM) : List MapEntry := (M.zipIdx o).map fun x => ⟨endV x.1.1, .int .i64 x.1.2, x.2⟩
def mEnt (M : MM) : Array MapEntry := (mL 0 M).toArray
def MapS (w : World) (b : Nat) (M : MM) : Prop := w.heap[b]? = some (.map (mEnt M) M.length)
def putM (w : World) (b : Nat) (M : MM) : World := { w with heap := w.heap.setIfInBounds b (.map (mEnt M) M.length) }
def lookM : MM → (Int × Int) → Option (Nat × Int)
  | [], _ => none
  | x :: M, e => if e = x.1 then some (0, x.2) else (lookM M e).map fun y => (y.1 + 1, y.2)
theorem run_findAsking (e : Int × Int) (w : World) : ∀ (M : MM) (o i : Nat), (Instr.findAsking 38 (endV e) (mL o M) i).run Try.prog w = .ok ((lookM M e).map fun y => (i + y.1, .int .i64 y.2)) w
  | [], o, i => by simp [mL, Instr.findAsking, lookM]
  | x :: M, o, i => by
    have ih := run_findAsking e w M (o + 1) (i + 1)
    have hm : mL o (x :: M) = ⟨endV x.1, .int .i64 x.2, o⟩ :: mL (o + 1) M := by simp [mL, List.zipIdx_cons]
    rw [hm]
    unfold Instr.findAsking
    simp only [Sem.run_bind, run_equal_end, Result.andThen_ok]
    by_cases h : e = x.1
    · simp [lookM, h]
    · simp only [h, decide_false, Bool.false_eq_true, if_false, lookM, ih]
      cases lookM M e with
      | none => simp
      | some y => simp; omega
theorem run_findKey_end (e : Int × Int) (w : World) (M : MM) : (Instr.findKey 38 (endV e) (mEnt M).toList).run Try.prog w = .ok ((lookM M e).map fun y => (y.1, .int .i64 y.2)) w := by
  rw [run_findKey_eq w (by kernel_rfl)]
  have := run_findAsking e w M 0 0
  simpa [mEnt] using this
theorem mapS_put {w : World} {b : Nat} {M M' : MM} (h : MapS w b M) : MapS (putM w b M') b M' := by
  have : b < w.heap.size := by
    rcases Nat.lt_or_ge b w.heap.size with h1 | h1
    · exact h1
    · unfold MapS at h; rw [Array.getElem?_eq_none h1] at h; cases h
  simp [MapS, putM, this]
theorem put_cell {w : World} {b : Nat} {M M' : MM} (h : MapS w b M) (a : Addr) : (putM w b M').cell? a = w.cell? a := by
  unfold MapS at h
  by_cases e : a.block = b
  · subst e
    have h2 := mapS_put (w := w) (M' := M') (M := M) h
    unfold MapS at h2
    simp [World.cell?, h, h2]
  · simp only [World.cell?, putM]
    rw [Array.getElem?_setIfInBounds_ne (fun g => e g.symm)]
theorem run_getObj_map {w : World} {b : Nat} {M : MM} (h : MapS w b M) : (getObj b).run Try.prog w = .ok (.map (mEnt M) M.length) w := by
  unfold MapS at h
  simp [getObj, Sem.run, h]
theorem run_setObj_map {w : World} {b : Nat} {M : MM} (h : MapS w b M) (M' : MM) (es : Array MapEntry) (c : Nat) (he : es = mEnt M') (hc : c = M'.length) : (setObj b (.map es c)).run Try.prog w = .ok () (putM w b M') := by
  unfold MapS at h
  subst he hc
  simp [setObj, Sem.run, h, putM]
theorem run_lookup_end {w : World} {b : Nat} {M : MM} (h : MapS w b M) (e : Int × Int) : (Instr.lookup 61 (.map (some b)) (endV e) false).run Try.prog w = .ok (.int .i64 (((lookM M e).map fun y => y.2).getD 0)) w := by
  unfold Instr.lookup
  simp only [Sem.run_bind, run_underlying Try.underlying61, Result.andThen_ok, run_getObj_map h, Sem.run_pure, run_check_end, run_findKey_end]
  cases hl : lookM M e with
  | none => simp
  | some y => simp
theorem mL_get : ∀ (M : MM) (o i : Nat), (mL o M)[i]? = (M[i]?).map fun x => ⟨endV x.1, .int .i64 x.2, o + i⟩ := by
  intro M o i
  simp [mL, List.getElem?_map, List.getElem?_zipIdx]
  cases M[i]? <;> simp
theorem lookM_at {M : MM} {e : Int × Int} {y : Nat × Int} (h : lookM M e = some y) : M[y.1]? = some (e, y.2) := by
  induction M generalizing y with
  | nil => simp [lookM] at h
  | cons x M ih =>
    simp only [lookM] at h
    by_cases he : e = x.1
    · rw [if_pos he] at h; injection h with h; subst h; subst he; simp
    · rw [if_neg he] at h
      cases hl : lookM M e with
      | none => rw [hl] at h; cases h
      | some z => rw [hl] at h; injection h with h; subst h; simpa using ih hl
theorem sameBits_end (e : Int × Int) : Instr.sameBits 10000 (endV e) (endV e) = true := by
  obtain ⟨a, b⟩ := e
  simp [Instr.sameBits]
theorem run_entry_old {w : World} {b : Nat} {M : MM} (h : MapS w b M) {e : Int × Int} {y : Nat × Int} (hl : lookM M e = some y) :
    (Instr.mapEntry 61 (.map (some b)) (endV e)).run Try.prog w = .ok (.tuple #[.int .i64 y.2, .int .i64 y.1]) (putM w b M) := by
  have hat := lookM_at hl
  have hm : (mEnt M)[y.1]? = some ⟨endV e, .int .i64 y.2, y.1⟩ := by
    have := mL_get M 0 y.1
    rw [hat] at this
    simpa [mEnt] using this
  have hmod : (mEnt M).modify y.1 (fun x => { x with key := endV e }) = mEnt M := by
    apply Array.ext_getElem?
    intro i
    rw [Array.getElem?_modify]
    by_cases hi : y.1 = i
    · subst hi; rw [if_pos rfl, hm]; rfl
    · rw [if_neg hi]
  unfold Instr.mapEntry
  simp only [Sem.run_bind, run_underlying Try.underlying61, Result.andThen_ok, run_getObj_map h, run_check_end, run_findKey_end, hl, Option.map_some, hm, Option.getD_some, Instr.keyThatStays, sameBits_end, if_true, Sem.run_pure, hmod, run_setObj_map h M _ _ rfl rfl]
  simp [goInt]
theorem run_entry_new {w : World} {b : Nat} {M : MM} (h : MapS w b M) {e : Int × Int} (hl : lookM M e = none) :
    (Instr.mapEntry 61 (.map (some b)) (endV e)).run Try.prog w = .ok (.tuple #[.int .i64 0, .int .i64 M.length]) (putM w b (M ++ [(e, 0)])) := by
  have hp : (mEnt M).push ⟨endV e, .int .i64 0, M.length⟩ = mEnt (M ++ [(e, 0)]) := by
    simp [mEnt, mL, List.zipIdx_append]
  have hz : (zeroValue 3).run Try.prog w = .ok (.int .i64 0) w := by go_simp
  unfold Instr.mapEntry
  simp only [Sem.run_bind, run_underlying Try.underlying61, Result.andThen_ok, run_getObj_map h, run_check_end, run_findKey_end, hl, Option.map_none, hz, run_setObj_map h (M ++ [(e, 0)]) _ (M.length + 1) hp (by simp)]
  simp [goInt]
theorem run_entryStore {w : World} {b : Nat} {M : MM} (h : MapS w b M) {e : Int × Int} {i : Nat} {u : Int} (hi : M[i]? = some (e, u)) (v : Int) :
    (Instr.entryStore 61 (.map (some b)) (.int .i64 i) (.int .i64 v)).run Try.prog w = .ok () (putM w b (M.set i (e, v))) := by
  have hlt : i < M.length := (List.getElem?_eq_some_iff.1 hi).1
  have hf : (mEnt M).findIdx? (fun x => (x.born : Int) == (i : Int)) = some i := by
    rw [mEnt, List.findIdx?_toArray, List.findIdx?_eq_some_iff_getElem]
    refine ⟨by simpa [mL] using hlt, by simp [mL], fun j hj => ?_⟩
    simp [mL]; omega
  have hmod : (mEnt M).modify i (fun x => { x with val := .int .i64 v }) = mEnt (M.set i (e, v)) := by
    apply Array.ext_getElem?
    intro j
    have h1 := mL_get M 0 j
    have h2 := mL_get (M.set i (e, v)) 0 j
    rw [Array.getElem?_modify]
    simp only [mEnt, List.getElem?_toArray] at h1 h2 ⊢
    rw [h1, h2]
    by_cases hij : i = j
    · subst hij
      have hg : M[i] = (e, u) := by rw [List.getElem?_eq_getElem hlt] at hi; injection hi
      simp [hlt, hg]
    · simp [hij]
  unfold Instr.entryStore
  simp only [Sem.run_bind, Result.andThen_ok, run_getObj_map h, asInt, asIntOf, Sem.run_pure, hf, hmod, run_setObj_map h (M.set i (e, v)) _ M.length rfl (by simp)]
theorem MapS.lt {w : World} {b : Nat} {M : MM} (h : MapS w b M) : b < w.heap.size := by
  rcases Nat.lt_or_ge b w.heap.size with h1 | h1
  · exact h1
  · unfold MapS at h; rw [Array.getElem?_eq_none h1] at h; cases h
theorem MapS.alloc {w : World} {b : Nat} {M : MM} (h : MapS w b M) (o : Obj) : MapS (w.alloc o) b M := (Below.heap_alloc w o b h.lt).trans h
theorem MapS.drew {w : World} {b : Nat} {M : MM} (h : MapS w b M) : MapS w.drew b M := h
theorem MapS.below {w w' : World} {b B : Nat} {M : MM} (h : MapS w b M) (hb : Below B w w') (hB : b < B) : MapS w' b M := (hb.block b hB).trans h
theorem below_put {B b : Nat} {w w' : World} {M : MM} (h : Below B w w') (hB : B ≤ b) : Below B w (putM w' b M) :=
  ⟨h.os, h.tape, h.output, by simpa [putM] using h.size, fun k hk => by
    rw [← h.block k hk]; simp only [putM]; rw [Array.getElem?_setIfInBounds_ne (by omega)]⟩
theorem lookM_none {es : List (Int × Int)} {e : Int × Int} (h : e ∉ es) : lookM (es.map fun x => (x, 1)) e = none := by
  induction es with
  | nil => rfl
  | cons x es ih =>
    simp only [List.mem_cons, not_or] at h
    simp only [List.map_cons, lookM, if_neg h.1, ih h.2, Option.map_none]
theorem lookM_some {es : List (Int × Int)} {e : Int × Int} (h : e ∈ es) : ∃ i, lookM (es.map fun x => (x, 1)) e = some (i, 1) := by
  induction es with
  | nil => simp at h
  | cons x es ih =>
    by_cases hx : e = x
    · exact ⟨0, by simp [lookM, hx]⟩
    · obtain ⟨i, hi⟩ := ih ((List.mem_cons.1 h).resolve_left hx)
      exact ⟨i + 1, by simp [lookM, hx, hi]⟩
theorem lookM_app {M : MM} {e : Int × Int} (h : lookM M e = none) (v : Int) : lookM (M ++ [(e, v)]) e = some (M.length, v) := by
  induction M with
  | nil => simp [lookM]
  | cons x M ih =>
    simp only [lookM] at h
    by_cases hx : e = x.1
    · rw [if_pos hx] at h; cases h
    · rw [if_neg hx] at h
      have : lookM M e = none := by cases hl : lookM M e with
        | none => rfl
        | some y => rw [hl] at h; cases h
      simp [lookM, hx, ih this]
theorem lookM_set {M : MM} {e : Int × Int} {y : Nat × Int} (h : lookM M e = some y) (v : Int) : lookM (M.set y.1 (e, v)) e = some (y.1, v) := by
  induction M generalizing y with
  | nil => simp [lookM] at h
  | cons x M ih =>
    simp only [lookM] at h
    by_cases hx : e = x.1
    · rw [if_pos hx] at h; injection h with h; subst h; simp [lookM]
    · rw [if_neg hx] at h
      cases hl : lookM M e with
      | none => rw [hl] at h; cases h
      | some z =>
        rw [hl] at h; injection h with h; subst h
        simp [lookM, hx, ih hl]
end Go.Proofs.Ytjijggighppjbaa

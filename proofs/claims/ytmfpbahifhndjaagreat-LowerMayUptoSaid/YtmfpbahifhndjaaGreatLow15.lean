import Derived.Test.YtmfpbahifhndjaaGreatLow14
import Derived.Defers
import Derived.Recover
set_option linter.all false
/-! Layer 8: caught's deferred closure. -/
namespace Go.Proofs.YtmfpbahifhndjaaGreat
open Go.RowKit
set_option maxRecDepth 100000 in
set_option maxHeartbeats 2000000 in
/-- Entered as a deferred call of a frame that returns: recover finds nothing. -/
theorem catch_idle (q : Addr) (w : World) :
  CallsD Tryz.prog 96 #[.pointer (some q)] .returning w fun e u' w' => e = .returned (.tuple #[]) ∧ u' = .returning ∧ w' = w := by
 refine callsD_of_wpS Tryz.func96 rfl fun c₀ cs hu => ?_
 apply wpS_seq
 apply wpS_region
 simp [wpOpsS, go_sem, recoverD, hu, Tryz.ntmps96, Exit.thenS]
 apply wpS_seq
 apply wpS_region
 simp [wpOpsS, go_sem, Exit.thenS]
 refine wpS_cond (t := false) (by simp [Act.eval, Array.replicate]) ?_
 simp only [Bool.false_eq_true, if_false]
 refine wpS_of_wp ?_
 go_wp2
 cases c₀
 simp_all [bodyPostS, results, Tryz.results96, Exit.thenS]
set_option maxRecDepth 100000 in
set_option maxHeartbeats 4000000 in
/-- Entered as a deferred call of a frame that panics with an error's number: the panic is marked, the result laid. -/
theorem catch_errno (q : Addr) (x n : Int) (older : List PanicEntry) (w : World) (hc : w.cell? q = some (.int .i64 x)) (hz : w.frozen? q = false) :
  CallsD Tryz.prog 96 #[.pointer (some q)] (.panicking ({ v := .iface 66 (.int .i64 n), recovered := false } :: older)) w fun e u' w' =>
   e = .returned (.tuple #[]) ∧ u' = .panicking ({ v := .iface 66 (.int .i64 n), recovered := true } :: older) ∧ w' = w.setCell q (.int .i64 n) := by
 refine callsD_of_wpS Tryz.func96 rfl fun c₀ cs hu => ?_
 apply wpS_seq
 apply wpS_region
 simp [wpOpsS, go_sem, recoverD, hu, Tryz.ntmps96, Exit.thenS]
 apply wpS_seq
 apply wpS_region
 simp [wpOpsS, go_sem, Exit.thenS]
 refine wpS_cond (t := true) (by simp [Act.eval, Array.replicate]) ?_
 simp only [if_true]
 apply wpS_region
 simp [wpOpsS, go_sem, hc, hz, bodyPostS, results, Tryz.results96]
end Go.Proofs.YtmfpbahifhndjaaGreat
/-! Layer 8: caught, of a closure that captures two. -/
namespace Go.Proofs.YtmfpbahifhndjaaGreat
open Go.RowKit
def errN (r : Rs Unit) : Int := match r with
 | .error n => n
 | .ok _ => 0
end Go.Proofs.YtmfpbahifhndjaaGreat
/-! Plain: a type of what may be is of a width that may be. -/
namespace Go.Proofs.YtmfpbahifhndjaaGreat
theorem fieldR_ok {l : List Fd} {i : Int} {t : Ty} (hl : ∀ f ∈ l, 1 ≤ f.2 ∧ f.2 ≤ 128) (hi : ¬ i < 0 → i.toNat < l.length) (h : fieldR l i = .ok t) : okTy t := by
 unfold fieldR at h
 by_cases h0 : i < 0
 ·rw [if_pos h0] at h; cases h
 ·rw [if_neg h0] at h
  injection h with h
  subst h
  have hk := hi h0
  refine ⟨by simp, fun _ _ => ?_⟩
  simp only [List.getElem?_eq_getElem hk, Option.elim]
  exact hl _ (List.getElem_mem hk)
theorem widths_of {l : List Fd} (h : l.all fdB = true) : ∀ f ∈ l, 1 ≤ f.2 ∧ f.2 ≤ 128 := fun f hf => by
 have := List.all_eq_true.1 h f hf
 simp only [fdB, widthB, Bool.and_eq_true, decide_eq_true_eq] at this
 exact this.2
theorem findI_small {α : Type} [DecidableEq α] {l : List α} {a : α} (h : ¬ findI l a < 0) : (findI l a).toNat < l.length := by
 unfold findI at h ⊢
 by_cases hm : a ∈ l
 ·rw [if_pos hm]; have := idx_lt a l hm; omega
 ·rw [if_neg hm] at h; omega
theorem fields_small {l : List Fd} {s : ByteArray} (h : ¬ fieldsI l s < 0) : (fieldsI l s).toNat < l.length := by
 have := findI_small (l := l.map Prod.fst) (a := s) h
 rw [List.length_map] at this
 exact this
/-- Every field of a header, metadatum and parameter has a width that may be. -/
def wideP (p : Pg) : Bool := p.headers.all hdB && p.metas.all fdB && p.actions.all acB
theorem leaf_ok {p : Pg} (hm : wideP p = true) {act op : Int} {lit : Lt} {head name : ByteArray} (hl : op = 1 → litB lit = true) {t : Ty} (h : leafR p act op lit head name = .ok t) : okTy t := by
 simp only [wideP, Bool.and_eq_true] at hm
 obtain ⟨⟨hh, hmt⟩, ha⟩ := hm
 unfold leafR at h
 split at h
 ·rename_i h1
  injection h with h
  subst h
  refine ⟨by simp, fun _ hf => ?_⟩
  have := hl h1
  simp only [litB, Bool.or_eq_true, decide_eq_true_eq, Bool.and_eq_true, widthB] at this
  simp only [decide_eq_false_iff_not] at hf
  rcases this with h | h
  ·exact absurd h hf
  ·exact h.1
 ·split at h
  ·split at h
   ·cases h
   ·rename_i hn
    have hk := findI_small (l := p.headers.map Hd.name) (a := head) hn
    rw [List.length_map] at hk
    change (headerI p head).toNat < _ at hk
    rw [List.getElem?_eq_getElem hk] at h
    simp only [Option.elim] at h
    have hd := List.all_eq_true.1 hh _ (List.getElem_mem hk)
    simp only [hdB, Bool.and_eq_true] at hd
    refine fieldR_ok (widths_of hd.2) (fun hi => ?_) h
    have e : fieldI p (headerI p head) name = fieldsI p.headers[(headerI p head).toNat].fields name := by
     unfold fieldI; rw [if_neg hn, List.getElem?_eq_getElem hk]; rfl
    rw [e] at hi ⊢
    exact fields_small hi
  ·split at h
   ·exact fieldR_ok (widths_of hmt) (fun hi => fields_small hi) h
   ·split at h
    ·split at h
     ·cases h
     ·rename_i hn
      have ha0 : ¬ act < 0 := fun h0 => by unfold paramI at hn; rw [if_pos h0] at hn; omega
      by_cases hk : act.toNat < p.actions.length
      ·have e : paramI p act name = fieldsI p.actions[act.toNat].params name := by
        unfold paramI; rw [if_neg ha0, List.getElem?_eq_getElem hk]; rfl
       rw [List.getElem?_eq_getElem hk] at h
       simp only [Option.elim] at h
       have had := List.all_eq_true.1 ha _ (List.getElem_mem hk)
       simp only [acB, Bool.and_eq_true] at had
       refine fieldR_ok (widths_of had.1.2) (fun hi => ?_) h
       rw [e] at hi ⊢
       exact fields_small hi
      ·unfold paramI at hn
       rw [if_neg ha0, List.getElem?_eq_none (by omega)] at hn
       simp only [Option.elim] at hn
       omega
    ·split at h
     ·split at h
      ·cases h
      ·injection h with h; subst h; exact ⟨by simp, fun h => by cases h⟩
     ·injection h with h; subst h; exact ⟨by simp, fun _ _ => by simp⟩
theorem one_ok {op hi lo : Int} {s t : Ty} (hop : op = 10 → 0 ≤ lo ∧ lo ≤ hi) (hs : okTy s) (h : oneR op hi lo s = .ok t) : okTy t := by
 unfold oneR at h
 split at h
 ·split at h
  ·injection h with h; subst h; exact hs
  ·cases h
 ·split at h
  ·rename_i h10
   obtain ⟨g1, g2⟩ := hop h10
   split at h
   ·cases h
   ·split at h
    ·cases h
    ·split at h
     ·rename_i h1 h2 h3
      have := hs.2 (by simpa using h1) (by simpa using h2)
      injection h with h; subst h
      exact ⟨by simp, fun _ _ => by simp only; omega⟩
     ·cases h
  ·split at h
   ·cases h
   ·injection h with h; subst h; exact hs
theorem bits_ok {s t : Ty} (hs : okTy s) (h : bitsR s = .ok t) : okTy t ∧ t = s ∧ s.truth = false ∧ s.free = false := by
 unfold bitsR at h
 split at h
 ·cases h
 ·split at h
  ·cases h
  ·rename_i h1 h2
   injection h with h; subst h; exact ⟨hs, rfl, by simpa using h1, by simpa using h2⟩
theorem join_ok {a b : Ex} {s t j : Ty} (hs : okTy s) (ht : okTy t) (h : joinR a b s t = .ok j) : okTy j := by
 unfold joinR at h
 repeat' split at h
 all_goals first
  | (cases h; done)
  | (injection h with h; subst h; assumption)
theorem pair_ok {op : Int} {a b : Ex} {s t j : Ty} (hs : okTy s) (ht : okTy t) (h : pairR op a b s t = .ok j) : okTy j := by
 unfold pairR at h
 split at h
 ·split at h
  ·cases h
  ·split at h
   ·cases h
   ·split at h
    ·cases h
    ·split at h
     ·cases h
     ·split at h
      ·rename_i h1 h2 h3 h4 h5
       have e1 := hs.2 (by simpa using h1) (by simpa using h2)
       have e2 := ht.2 (by simpa using h3) (by simpa using h4)
       injection h with h; subst h
       exact ⟨by simp, fun _ _ => by simp only; omega⟩
      ·cases h
 ·split at h
  ·split at h
   ·injection h with h; subst h; exact hs
   ·cases h
  ·split at h
   ·cases h
   ·rename_i j' hj
    split at h
    ·injection h with h; subst h; exact ⟨by simp, fun h => by cases h⟩
    ·injection h with h; subst h; exact join_ok hs ht hj
theorem one_form {op : Int} {lit : Lt} {head name : ByteArray} {hi lo : Int} {n : Nat} (h : oneB op lit head name hi lo n = true) : (op = 1 → litB lit = true) ∧ (op = 10 → 0 ≤ lo ∧ lo ≤ hi ∧ hi < 128) := by
 refine ⟨fun e => ?_, fun e => ?_⟩
 ·subst e
  simp [oneB, formOf] at h
  exact h.1.2
 ·subst e
  simp [oneB, formOf] at h
  exact h.2
theorem ofR_wide {p : Pg} (hm : wideP p = true) (act : Int) (e : Ex) : allE e = true → ∀ t, ofR p act e = .ok t → okTy t := by
 induction e using Ex.ind with
 | h op lit head name hi lo args ih =>
  intro he t h
  simp only [allE, Bool.and_eq_true, allL_all, List.all_eq_true] at he
  obtain ⟨f1, f2⟩ := one_form he.1.1
  match args, ih, he, h with
  | [], _, _, h => exact leaf_ok hm f1 (by simpa only [ofR] using h)
  | [a], ih, he, h =>
   simp only [ofR] at h
   split at h
   ·cases h
   ·rename_i s hs
    exact one_ok (fun e => ⟨(f2 e).1, (f2 e).2.1⟩) (ih a (by simp) (he.2 a (by simp)) s hs) h
  | a :: b :: l, ih, he, h =>
   simp only [ofR] at h
   split at h
   ·cases h
   ·rename_i s hs
    have hsk := ih a (by simp) (he.2 a (by simp)) s hs
    split at h
    ·exact (bits_ok hsk h).1
    ·split at h
     ·cases h
     ·rename_i t' ht'
      exact pair_ok hsk (ih b (by simp) (he.2 b (by simp)) t' ht') h
end Go.Proofs.YtmfpbahifhndjaaGreat
/-! Plain: what the document's types answer, errors as values. -/
namespace Go.Proofs.YtmfpbahifhndjaaGreat
def ofE (r : Rs Ty) : Ty × Int := match r with
 | .ok t => (t, 0)
 | .error n => (⟨0, false, false⟩, n)
def unR (r : Rs Ty) : Rs Unit := match r with
 | .ok _ => .ok ()
 | .error n => .error n
theorem errN_un (r : Rs Ty) : errN (unR r) = (ofE r).2 := by cases r <;> rfl
def askR (p : Pg) (act : Int) (e : Ex) : Rs Ty := if mayE e then ofR p act e else .error 2
end Go.Proofs.YtmfpbahifhndjaaGreat

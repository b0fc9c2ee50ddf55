import Derived.Test.YtbbdhknagofghaaGreatWhl03
import Derived.Defers
import Derived.Recover
import Derived.Test.YtbbdhknagofghaaGreatWhl02
set_option linter.all false
/-! Layer 8: caught's deferred closure. -/
namespace Go.Proofs.YtbbdhknagofghaaGreat
open Go.RowKit
set_option maxRecDepth 100000 in
set_option maxHeartbeats 2000000 in
/-- Entered as a deferred call of a frame that returns: recover finds nothing. -/
theorem catch_idle (q : Addr) (w : World) :
  CallsD Tryz.prog 34 #[.pointer (some q)] .returning w fun e u' w' => e = .returned (.tuple #[]) ∧ u' = .returning ∧ w' = w := by
 refine callsD_of_wpS Tryz.func34 rfl fun c₀ cs hu => ?_
 apply wpS_seq
 apply wpS_region
 simp [wpOpsS, go_sem, recoverD, hu, Tryz.ntmps34, Exit.thenS]
 apply wpS_seq
 apply wpS_region
 simp [wpOpsS, go_sem, Exit.thenS]
 refine wpS_cond (t := false) (by simp [Act.eval, Array.replicate]) ?_
 simp only [Bool.false_eq_true, if_false]
 refine wpS_of_wp ?_
 go_wp2
 cases c₀
 simp_all [bodyPostS, results, Tryz.results34, Exit.thenS]
set_option maxRecDepth 100000 in
set_option maxHeartbeats 4000000 in
/-- Entered as a deferred call of a frame that panics with an error's number: the panic is marked, the result laid. -/
theorem catch_errno (q : Addr) (x n : Int) (older : List PanicEntry) (w : World) (hc : w.cell? q = some (.int .i64 x)) (hz : w.frozen? q = false) :
  CallsD Tryz.prog 34 #[.pointer (some q)] (.panicking ({ v := .iface 33 (.int .i64 n), recovered := false } :: older)) w fun e u' w' =>
   e = .returned (.tuple #[]) ∧ u' = .panicking ({ v := .iface 33 (.int .i64 n), recovered := true } :: older) ∧ w' = w.setCell q (.int .i64 n) := by
 refine callsD_of_wpS Tryz.func34 rfl fun c₀ cs hu => ?_
 apply wpS_seq
 apply wpS_region
 simp [wpOpsS, go_sem, recoverD, hu, Tryz.ntmps34, Exit.thenS]
 apply wpS_seq
 apply wpS_region
 simp [wpOpsS, go_sem, Exit.thenS]
 refine wpS_cond (t := true) (by simp [Act.eval, Array.replicate]) ?_
 simp only [if_true]
 apply wpS_region
 simp [wpOpsS, go_sem, hc, hz, bodyPostS, results, Tryz.results34]
end Go.Proofs.YtbbdhknagofghaaGreat
/-! Layer 8: caught, of a closure that captures two. -/
namespace Go.Proofs.YtbbdhknagofghaaGreat
open Go.RowKit
def errN (r : Rs Unit) : Int := match r with
 | .error n => n
 | .ok _ => 0
set_option maxRecDepth 100000 in
set_option maxHeartbeats 4000000 in
theorem caught_check (a b : Option Addr) (r : Rs Unit) (w : World) (hBy : ∀ W, Below w.heap.size w W → Calls Tryz.prog 20 #[.pointer a, .pointer b] W fun e w' => e = endU r ∧ Below W.heap.size W w') :
  Calls Tryz.prog 19 #[.func (.func 20) #[] #[.pointer a, .pointer b]] w fun e w' => e = .returned (.int .i64 (errN r)) ∧ Below w.heap.size w w' := by
 have hmf : ∀ (fn : Fn) (first cap : Array Value) (w : World), (Instr.makeFunc fn first cap).run Tryz.prog w = .ok (.func fn first cap) w := fun _ _ _ _ => rfl
 obtain ⟨wb, hwb, hsb, hbb, hcb, hfb⟩ := box1 w #[.int .i64 0] 33
 have x0 : wb.cell? ⟨w.heap.size, 0, none⟩ = some (.int .i64 0) := hcb 0
 have hf0 := hfb 0
 have hl1 : w.heap.size < wb.heap.size := by omega
 have hB := hide (hBy wb hbb)
 clear hcb hfb hBy
 replace hsb := hide hsb
 cases r with
 | ok u =>
  replace hB := hide (show Calls Tryz.prog _ _ wb fun e w' => e = .returned (.tuple #[]) ∧ Below wb.heap.size wb w' from hB.out)
  go_enter_defers Tryz.func19, Tryz.ntmps19
  go_wp2_with (go_at_call 20; refine hB.out.mono ?_; rintro e w3 ⟨rfl, hb3⟩; have kb3 := bcell' hb3; have q3 := Nat.lt_of_lt_of_le hl1 hb3.size)
  refine leaves_cons (f := 34) (args := #[.pointer (some ⟨w.heap.size, 0, none⟩)]) (by simp) (by simp [go_sem]) ?_
  refine (catch_idle ⟨w.heap.size, 0, none⟩ _).mono ?_
  rintro e u' w'' ⟨rfl, rfl, rfl⟩
  have hlt := q3
  have hcell := (hb3.cell (p := ⟨w.heap.size, 0, none⟩) hl1).trans x0
  simp [Leaves, settle, results, Tryz.results19, go_sem, hcell, errN]
  exact (hbb.trans (hb3.mono (by omega))).setCell (Nat.le_refl _) _
 | error n =>
  replace hB := hide (show Calls Tryz.prog _ _ wb fun e w' => e = noE n ∧ Below wb.heap.size wb w' from hB.out)
  go_enter_defers Tryz.func19, Tryz.ntmps19
  go_wp2_with (go_at_call 20; refine hB.out.mono ?_; rintro e w3 ⟨rfl, hb3⟩; have kb3 := bcell' hb3; have q3 := Nat.lt_of_lt_of_le hl1 hb3.size)
  have hcell := (hb3.cell (p := ⟨w.heap.size, 0, none⟩) hl1).trans x0
  have hfz : w3.frozen? ⟨w.heap.size, 0, none⟩ = false := (kb3.2 _ 0 hl1).trans hf0
  refine leaves_cons (f := 34) (args := #[.pointer (some ⟨w.heap.size, 0, none⟩)]) (by simp) (by simp [go_sem]) ?_
  refine (catch_errno ⟨w.heap.size, 0, none⟩ 0 n [] _ hcell hfz).mono ?_
  rintro e u' w'' ⟨rfl, rfl, rfl⟩
  simp [Leaves, settle, results, Tryz.results19, go_sem, hcell, errN]
  exact (hbb.trans (hb3.mono (by omega))).setCell (Nat.le_refl _) _
end Go.Proofs.YtbbdhknagofghaaGreat
/-! Plain: a type of what may be is of a width that may be. -/
namespace Go.Proofs.YtbbdhknagofghaaGreat
theorem fieldR_ok {l : List Fd} {i : Int} {t : Ty} (hl : ∀ f ∈ l, 1 ≤ f.2 ∧ f.2 ≤ 128) (hi : ¬ i < 0 → i.toNat < l.length) (h : fieldR l i = .ok t) : okTy t := by
 unfold fieldR at h
 by_cases h0 : i < 0
 ·rw [if_pos h0] at h; cases h
 ·rw [if_neg h0] at h
  injection h with h
  subst h
  have hk := hi h0
  refine ⟨by simp, fun _ _ => ?_⟩
  simp only [List.getElem?_eq_getElem hk, Option.elim]
  exact hl _ (List.getElem_mem hk)
theorem widths_of {l : List Fd} (h : l.all fdB = true) : ∀ f ∈ l, 1 ≤ f.2 ∧ f.2 ≤ 128 := fun f hf => by
 have := List.all_eq_true.1 h f hf
 simp only [fdB, widthB, Bool.and_eq_true, decide_eq_true_eq] at this
 exact this.2
theorem findI_small {α : Type} [DecidableEq α] {l : List α} {a : α} (h : ¬ findI l a < 0) : (findI l a).toNat < l.length := by
 unfold findI at h ⊢
 by_cases hm : a ∈ l
 ·rw [if_pos hm]; have := idx_lt a l hm; omega
 ·rw [if_neg hm] at h; omega
theorem fields_small {l : List Fd} {s : ByteArray} (h : ¬ fieldsI l s < 0) : (fieldsI l s).toNat < l.length := by
 have := findI_small (l := l.map Prod.fst) (a := s) h
 rw [List.length_map] at this
 exact this
/-- Every field of a header, metadatum and parameter has a width that may be. -/
def wideP (p : Pg) : Bool := p.headers.all hdB && p.metas.all fdB && p.actions.all acB
theorem wide_of {p : Pg} (hm : mayP p = true) : wideP p = true := by
 simp only [mayP, Bool.and_eq_true] at hm
 simp only [wideP, Bool.and_eq_true]
 exact ⟨⟨hm.1.1.1.1.1.1.2, hm.1.1.1.1.1.2⟩, hm.1.1.1.2⟩
theorem leaf_ok {p : Pg} (hm : wideP p = true) {act op : Int} {lit : Lt} {head name : ByteArray} (hl : op = 1 → litB lit = true) {t : Ty} (h : leafR p act op lit head name = .ok t) : okTy t := by
 simp only [wideP, Bool.and_eq_true] at hm
 obtain ⟨⟨hh, hmt⟩, ha⟩ := hm
 unfold leafR at h
 split at h
 ·rename_i h1
  injection h with h
  subst h
  refine ⟨by simp, fun _ hf => ?_⟩
  have := hl h1
  simp only [litB, Bool.or_eq_true, decide_eq_true_eq, Bool.and_eq_true, widthB] at this
  simp only [decide_eq_false_iff_not] at hf
  rcases this with h | h
  ·exact absurd h hf
  ·exact h.1
 ·split at h
  ·split at h
   ·cases h
   ·rename_i hn
    have hk := findI_small (l := p.headers.map Hd.name) (a := head) hn
    rw [List.length_map] at hk
    change (headerI p head).toNat < _ at hk
    rw [List.getElem?_eq_getElem hk] at h
    simp only [Option.elim] at h
    have hd := List.all_eq_true.1 hh _ (List.getElem_mem hk)
    simp only [hdB, Bool.and_eq_true] at hd
    refine fieldR_ok (widths_of hd.2) (fun hi => ?_) h
    have e : fieldI p (headerI p head) name = fieldsI p.headers[(headerI p head).toNat].fields name := by
     unfold fieldI; rw [if_neg hn, List.getElem?_eq_getElem hk]; rfl
    rw [e] at hi ⊢
    exact fields_small hi
  ·split at h
   ·exact fieldR_ok (widths_of hmt) (fun hi => fields_small hi) h
   ·split at h
    ·split at h
     ·cases h
     ·rename_i hn
      have ha0 : ¬ act < 0 := fun h0 => by unfold paramI at hn; rw [if_pos h0] at hn; omega
      by_cases hk : act.toNat < p.actions.length
      ·have e : paramI p act name = fieldsI p.actions[act.toNat].params name := by
        unfold paramI; rw [if_neg ha0, List.getElem?_eq_getElem hk]; rfl
       rw [List.getElem?_eq_getElem hk] at h
       simp only [Option.elim] at h
       have had := List.all_eq_true.1 ha _ (List.getElem_mem hk)
       simp only [acB, Bool.and_eq_true] at had
       refine fieldR_ok (widths_of had.1.2) (fun hi => ?_) h
       rw [e] at hi ⊢
       exact fields_small hi
      ·unfold paramI at hn
       rw [if_neg ha0, List.getElem?_eq_none (by omega)] at hn
       simp only [Option.elim] at hn
       omega
    ·split at h
     ·split at h
      ·cases h
      ·injection h with h; subst h; exact ⟨by simp, fun h => by cases h⟩
     ·injection h with h; subst h; exact ⟨by simp, fun _ _ => by simp⟩
theorem one_ok {op hi lo : Int} {s t : Ty} (hop : op = 10 → 0 ≤ lo ∧ lo ≤ hi) (hs : okTy s) (h : oneR op hi lo s = .ok t) : okTy t := by
 unfold oneR at h
 split at h
 ·split at h
  ·injection h with h; subst h; exact hs
  ·cases h
 ·split at h
  ·rename_i h10
   obtain ⟨g1, g2⟩ := hop h10
   split at h
   ·cases h
   ·split at h
    ·cases h
    ·split at h
     ·rename_i h1 h2 h3
      have := hs.2 (by simpa using h1) (by simpa using h2)
      injection h with h; subst h
      exact ⟨by simp, fun _ _ => by simp only; omega⟩
     ·cases h
  ·split at h
   ·cases h
   ·injection h with h; subst h; exact hs
theorem bits_ok {s t : Ty} (hs : okTy s) (h : bitsR s = .ok t) : okTy t ∧ t = s ∧ s.truth = false ∧ s.free = false := by
 unfold bitsR at h
 split at h
 ·cases h
 ·split at h
  ·cases h
  ·rename_i h1 h2
   injection h with h; subst h; exact ⟨hs, rfl, by simpa using h1, by simpa using h2⟩
theorem join_ok {a b : Ex} {s t j : Ty} (hs : okTy s) (ht : okTy t) (h : joinR a b s t = .ok j) : okTy j := by
 unfold joinR at h
 repeat' split at h
 all_goals first
  | (cases h; done)
  | (injection h with h; subst h; assumption)
theorem pair_ok {op : Int} {a b : Ex} {s t j : Ty} (hs : okTy s) (ht : okTy t) (h : pairR op a b s t = .ok j) : okTy j := by
 unfold pairR at h
 split at h
 ·split at h
  ·cases h
  ·split at h
   ·cases h
   ·split at h
    ·cases h
    ·split at h
     ·cases h
     ·split at h
      ·rename_i h1 h2 h3 h4 h5
       have e1 := hs.2 (by simpa using h1) (by simpa using h2)
       have e2 := ht.2 (by simpa using h3) (by simpa using h4)
       injection h with h; subst h
       exact ⟨by simp, fun _ _ => by simp only; omega⟩
      ·cases h
 ·split at h
  ·split at h
   ·injection h with h; subst h; exact hs
   ·cases h
  ·split at h
   ·cases h
   ·rename_i j' hj
    split at h
    ·injection h with h; subst h; exact ⟨by simp, fun h => by cases h⟩
    ·injection h with h; subst h; exact join_ok hs ht hj
theorem one_form {op : Int} {lit : Lt} {head name : ByteArray} {hi lo : Int} {n : Nat} (h : oneB op lit head name hi lo n = true) : (op = 1 → litB lit = true) ∧ (op = 10 → 0 ≤ lo ∧ lo ≤ hi ∧ hi < 128) := by
 refine ⟨fun e => ?_, fun e => ?_⟩
 ·subst e
  simp [oneB, formOf] at h
  exact h.1.2
 ·subst e
  simp [oneB, formOf] at h
  exact h.2
theorem ofR_wide {p : Pg} (hm : wideP p = true) (act : Int) (e : Ex) : allE e = true → ∀ t, ofR p act e = .ok t → okTy t := by
 induction e using Ex.ind with
 | h op lit head name hi lo args ih =>
  intro he t h
  simp only [allE, Bool.and_eq_true, allL_all, List.all_eq_true] at he
  obtain ⟨f1, f2⟩ := one_form he.1.1
  match args, ih, he, h with
  | [], _, _, h => exact leaf_ok hm f1 (by simpa only [ofR] using h)
  | [a], ih, he, h =>
   simp only [ofR] at h
   split at h
   ·cases h
   ·rename_i s hs
    exact one_ok (fun e => ⟨(f2 e).1, (f2 e).2.1⟩) (ih a (by simp) (he.2 a (by simp)) s hs) h
  | a :: b :: l, ih, he, h =>
   simp only [ofR] at h
   split at h
   ·cases h
   ·rename_i s hs
    have hsk := ih a (by simp) (he.2 a (by simp)) s hs
    split at h
    ·exact (bits_ok hsk h).1
    ·split at h
     ·cases h
     ·rename_i t' ht'
      exact pair_ok hsk (ih b (by simp) (he.2 b (by simp)) t' ht') h
theorem ofR_ok {p : Pg} (hm : mayP p = true) (act : Int) (e : Ex) (he : allE e = true) : ∀ t, ofR p act e = .ok t → okTy t := ofR_wide (wide_of hm) act e he
end Go.Proofs.YtbbdhknagofghaaGreat
/-! Plain: what the document's types answer, errors as values. -/
namespace Go.Proofs.YtbbdhknagofghaaGreat
def ofE (r : Rs Ty) : Ty × Int := match r with
 | .ok t => (t, 0)
 | .error n => (⟨0, false, false⟩, n)
def unR (r : Rs Ty) : Rs Unit := match r with
 | .ok _ => .ok ()
 | .error n => .error n
theorem errN_un (r : Rs Ty) : errN (unR r) = (ofE r).2 := by cases r <;> rfl
def askR (p : Pg) (act : Int) (e : Ex) : Rs Ty := if mayE e then ofR p act e else .error 2
end Go.Proofs.YtbbdhknagofghaaGreat
/-! A region that draws its order: a head that only reads, a call, a new box that may be laid at any time, and a store into it. -/
namespace Go.Proofs.YtbbdhknagofghaaGreat
open Go Go.RowKit
/-- What only reads: one value, the world as it was. -/
def pureUpon (w : World) (v : Value) : Result Next → Prop
 | .ok (.value u) w' => w' = w ∧ u = v
 | .ok .skip w' => w' = w ∧ v = undef
 | _ => False
def pureAt (P : Program) (o : Oper) (a : Act) (w : World) (v : Value) : Prop := pureUpon w v ((execOp a.eval o).run P w)
/-- The same value in two worlds. -/
def pureTwo (P : Program) (o : Oper) (a : Act) (w1 w2 : World) (K : Act → Prop) : Prop := ∃ v, pureAt P o a w1 v ∧ pureAt P o a w2 v ∧ K (a.put o.dst v)
def wpTwo (P : Program) (ops : Array Oper) (w1 w2 : World) (Q : Act → Prop) : List Oper → Act → Prop
 | [], a => Q a
 | o :: rest, a => if Region.wanted o (yielded ops a.tmps) then pureTwo P o a w1 w2 (wpTwo P ops w1 w2 Q rest) else wpTwo P ops w1 w2 Q rest (a.put o.dst undef)
section
variable {P : Program} {ops : Array Oper} {md : Region.Mode} {w1 w2 : World}
theorem wpTwo_nil {Q : Act → Prop} {a : Act} (h : Q a) : wpTwo P ops w1 w2 Q [] a := h
theorem wpTwo_step {Q : Act → Prop} {a : Act} {o : Oper} {rest : List Oper}
  (h : ∀ K : Act → Prop, (∀ a, wpTwo P ops w1 w2 Q rest a → K a) → if Region.wanted o (yielded ops a.tmps) then pureTwo P o a w1 w2 K else K (a.put o.dst undef)) : wpTwo P ops w1 w2 Q (o :: rest) a := h _ fun _ h => h
def YP (P : Program) (ops : Array Oper) (w1 w2 : World) (o : Oper) (a : Act) (v : Value) : Prop :=
 (Region.wanted o (yielded ops a.tmps) = true ∧ pureAt P o a w1 v ∧ pureAt P o a w2 v) ∨ (Region.wanted o (yielded ops a.tmps) = false ∧ v = undef)
theorem YP.eq {o : Oper} {a a' : Act} {v : Value} (he : execOp a'.eval o = execOp a.eval o) (hw : Region.wanted o (yielded ops a'.tmps) = Region.wanted o (yielded ops a.tmps)) (h : YP P ops w1 w2 o a v) : YP P ops w1 w2 o a' v := by
 unfold YP pureAt at *; rw [he, hw]; exact h
theorem YP.put {o : Oper} {a : Act} {v u : Value} {dst : Option Tmp} (hs : ∀ cs b, o.op ≠ .select cs b) (hd : ∀ d, dst = some d → d ∉ o.looksAt ops) (h : YP P ops w1 w2 o a v) : YP P ops w1 w2 o (a.put dst u) v :=
 h.eq (execOp_put o hs a dst u hd) (wanted_put o a dst u hd)
theorem YP.unput {o : Oper} {a : Act} {v u : Value} {dst : Option Tmp} (hs : ∀ cs b, o.op ≠ .select cs b) (hd : ∀ d, dst = some d → d ∉ o.looksAt ops) (h : YP P ops w1 w2 o (a.put dst u) v) : YP P ops w1 w2 o a v :=
 h.eq (execOp_put o hs a dst u hd).symm (wanted_put o a dst u hd).symm
def tOp (P : Program) (ops : Array Oper) (w1 w2 : World) (i : Nat) (K : Act → Prop) (a : Act) : Prop := ∃ o v, ops[i]? = some o ∧ YP P ops w1 w2 o a v ∧ K (a.put o.dst v)
theorem wpOp_of_YP {i : Nat} {o : Oper} {v : Value} {b : Act} {w : World} {K : Act → World → Prop} {Q : Exit → Act → World → Prop} (hw : w = w1 ∨ w = w2) (ho : ops[i]? = some o) (hy : YP P ops w1 w2 o b v) (hK : K (b.put o.dst v) w) : wpOp P ops Q i K b w := by
 unfold wpOp
 simp only [ho]
 rcases hy with ⟨h1, h2, h3⟩ | ⟨h1, rfl⟩
 ·have h4 : pureAt P o b w v := by rcases hw with rfl | rfl <;> assumption
  simp only [h1, if_true]
  left
  unfold pureAt at h4
  unfold Oper.wp
  generalize (execOp b.eval o).run P w = r at *
  cases r with
  | ok x w' =>
   cases x <;> simp only [pureUpon] at h4 <;> simp only [Oper.upon]
   ·obtain ⟨rfl, rfl⟩ := h4; exact hK
   ·obtain ⟨rfl, rfl⟩ := h4; exact hK
  | halt x w' => simp only [pureUpon] at h4
 ·simp only [h1, Bool.false_eq_true, if_false]; exact hK
/-- Whatever order the head takes; the operation behind the call stands by. -/
def headF (P : Program) (md : Region.Mode) (ops : Array Oper) (w1 w2 : World) (n : Nat) (L : Array Bool → Act → Prop) : Nat → Array Bool → Act → Prop
 | 0, listed, a => L listed a
 | k + 1, listed, a => (∃ i ∈ Region.ready md ops listed, i ≠ n + 1) ∧ ∀ i ∈ Region.ready md ops listed, i ≠ n + 1 → i < n ∧ tOp P ops w1 w2 i (headF P md ops w1 w2 n L k (listed.setIfInBounds i true)) a
theorem call_waits {n : Nat} {listed : Array Bool} (hs : Region.sinkB md ops n = true) (inv : HeadInv md ops n listed) : ∀ (d i : Nat), n - i = d → i < n → listed.getD i true = false → n ∉ Region.ready md ops listed := by
 intro d
 induction d using Nat.strongRecOn with
 | _ d ih =>
  intro i hd hi hun hr
  obtain ⟨_, on, hon, hall⟩ := mem_ready.1 hr
  obtain ⟨j, hj, hj2⟩ := List.any_eq_true.1 (List.all_eq_true.1 hs i (List.mem_range.2 hi))
  simp only [Bool.and_eq_true, decide_eq_true_eq] at hj2
  obtain ⟨oj, hoj, e, he, hb, heq⟩ := Region.waitsFor_spec hj2.2
  have hjle := List.mem_range.1 hj
  have hno : ∀ o, ops[j]? = some o → e ∈ o.after → (∀ x ∈ o.after, Region.binds md x = true → listed.getD x.on false = true) → False := fun o _ hx hl => by
   have := hl e hx hb
   rw [heq, getD_both hun] at this
   cases this
  by_cases hjn : j = n
  ·subst hjn
   have : oj = on := Option.some.inj (hoj.symm.trans hon)
   subst this
   exact hno _ hoj he hall
  ·cases hl : listed.getD j false with
   | true => exact hno _ hoj he (inv.closed j oj hoj hl)
   | false => exact ih (n - j) (by omega) j rfl (by omega) (getD_in (by rw [inv.size]; exact (Array.getElem?_eq_some_iff.1 hoj).1) hl) hr
/-- The last one waits for the call. -/
theorem last_waits {n : Nat} {listed : Array Bool} (h : Region.waitsFor md ops (n + 2) n = true) (inv : HeadInv md ops n listed) (hn : n < ops.size) : n + 2 ∉ Region.ready md ops listed := fun hr => by
 obtain ⟨_, o, ho, hall⟩ := mem_ready.1 hr
 obtain ⟨o', ho', e, he, hb, heq⟩ := Region.waitsFor_spec h
 have : o' = o := Option.some.inj (ho'.symm.trans ho)
 subst this
 have := hall e he hb
 rw [heq, getD_both (inv.tail n (Nat.le_refl _) hn)] at this
 cases this
theorem head_ready {n i j : Nat} {listed : Array Bool} (hs : Region.sinkB md ops n = true) (hl : Region.waitsFor md ops (n + 2) n = true) (hz : ops.size = n + 3) (inv : HeadInv md ops n listed) (hi : i < n) (hun : listed.getD i true = false)
  (hj : j ∈ Region.ready md ops listed) (hjf : j ≠ n + 1) : j < n := by
 have hlt : j < ops.size := by obtain ⟨_, o, ho, _⟩ := mem_ready.1 hj; exact (Array.getElem?_eq_some_iff.1 ho).1
 refine Nat.lt_of_not_le fun h => ?_
 rcases (show j = n ∨ j = n + 2 by omega) with rfl | rfl
 ·exact call_waits hs inv _ i rfl hi hun hj
 ·exact last_waits hl inv (by omega) hj
theorem tOp_put {j : Nat} {oi oj : Oper} {v : Value} {K : Act → Prop} {a : Act} (hj : ops[j]? = some oj) (hap : oi.apart ops oj = true) (hsi : ∀ cs b, oi.op ≠ .select cs b) (hsj : ∀ cs b, oj.op ≠ .select cs b)
  (hy : YP P ops w1 w2 oi a v) (h : tOp P ops w1 w2 j K (a.put oi.dst v)) : tOp P ops w1 w2 j (fun a' => YP P ops w1 w2 oi a' v ∧ K (a'.put oi.dst v)) a := by
 obtain ⟨h1, h2, h3⟩ := Oper.apart_spec hap
 obtain ⟨o, u, ho, hu, hK⟩ := h
 have : o = oj := Option.some.inj (ho.symm.trans hj)
 subst this
 exact ⟨o, u, ho, hu.unput hsj h1, hy.put hsi h3, by rw [← Act.put_comm a v u h2]; exact hK⟩
theorem tOp_mono {i : Nat} {a : Act} {K K' : Act → Prop} (h : ∀ a, K a → K' a) (hh : tOp P ops w1 w2 i K a) : tOp P ops w1 w2 i K' a :=
 let ⟨o, v, h1, h2, h3⟩ := hh
 ⟨o, v, h1, h2, h _ h3⟩
theorem headF_first {n i : Nat} {oi : Oper} {v : Value} {L : Array Bool → Act → Prop} (hi : ops[i]? = some oi) (hsel : ∀ (j : Nat) (o : Oper) cs b, ops[j]? = some o → o.op ≠ .select cs b)
  (hs : Region.sinkB md ops n = true) (hl : Region.waitsFor md ops (n + 2) n = true) (hz : ops.size = n + 3) (hin : i < n) (hdone : ∀ listed a, L listed a → ∀ j ∈ Region.ready md ops listed, n ≤ j) :
  ∀ (f : Nat) (listed : Array Bool) (a : Act), HeadInv md ops n listed →
   (∀ j oj, ops[j]? = some oj → j ≠ i → listed.getD j true = false → (∀ e ∈ oj.after, Region.binds md e = true → e.on ≠ i) → oi.apart ops oj = true) →
   i ∈ Region.ready md ops listed → YP P ops w1 w2 oi a v → headF P md ops w1 w2 n L f (listed.setIfInBounds i true) (a.put oi.dst v) → headF P md ops w1 w2 n L (f + 1) listed a := by
 intro f
 induction f with
 | zero =>
  intro listed a inv _ hr hy H
  refine ⟨⟨i, hr, by omega⟩, fun j hj hjf => ?_⟩
  have hjn := head_ready hs hl hz inv hin (mem_ready.1 hr).1 hj hjf
  by_cases e : j = i
  ·subst e; exact ⟨hjn, oi, v, hi, hy, H⟩
  ·exact absurd (hdone _ _ H j (ready_mono hj e)) (by omega)
 | succ f ih =>
  intro listed a inv hfree hr hy H
  have hun := (mem_ready.1 hr).1
  refine ⟨⟨i, hr, by omega⟩, fun j hj hjf => ?_⟩
  have hjn := head_ready hs hl hz inv hin hun hj hjf
  refine ⟨hjn, ?_⟩
  by_cases e : j = i
  ·subst e; exact ⟨oi, v, hi, hy, H⟩
  ·obtain ⟨hjun, oj, hoj, hall⟩ := mem_ready.1 hj
   have hnot : ∀ x ∈ oj.after, Region.binds md x = true → x.on ≠ i := fun x hx hb he => by
    have h1 := hall x hx hb
    rw [he, getD_both hun] at h1
    cases h1
   refine tOp_mono (fun a' h3 => ih _ a' (inv.set hj hjn) (fun k ok hk hki hu hno => hfree k ok hk hki ?_ hno) (ready_mono hr (Ne.symm e)) h3.1 ?_)
    (tOp_put hoj (hfree j oj hoj e hjun hnot) (fun cs b => hsel i oi cs b hi) (fun cs b => hsel j oj cs b hoj) hy (H.2 j (ready_mono hj e) hjf).2)
   ·by_cases ejk : j = k
    ·subst ejk; exact hjun
    ·rw [getD_set_ne true ejk] at hu; exact hu
   ·rw [Array.setIfInBounds_comm _ _ e]
    exact h3.2
/-- What the orders behind the head are. -/
def endB (md : Region.Mode) (ops : Array Oper) (n : Nat) (listed : Array Bool) : Bool :=
 decide (Region.ready md ops listed = [n, n + 1]) && Region.seqB md ops 2 (n + 1) (listed.setIfInBounds n true) && decide (Region.ready md ops (listed.setIfInBounds (n + 1) true) = [n]) &&
  decide (Region.ready md ops ((listed.setIfInBounds (n + 1) true).setIfInBounds n true) = [n + 2]) && decide (Region.ready md ops (((listed.setIfInBounds (n + 1) true).setIfInBounds n true).setIfInBounds (n + 2) true) = [])
def lexF (md : Region.Mode) (ops : Array Oper) (n : Nat) : Nat → Nat → Array Bool → Bool
 | 0, _, listed => endB md ops n listed
 | f + 1, k, listed => (Region.ready md ops listed).contains k && Region.free md ops listed k && lexF md ops n f (k + 1) (listed.setIfInBounds k true)
/-- The head may go ahead of the call, and the box's operation stands apart. -/
def floatB (md : Region.Mode) (ops : Array Oper) (n : Nat) : Bool :=
 Region.noSelect ops && decide (ops.size = n + 3) && Region.sinkB md ops n && Region.waitsFor md ops (n + 2) n && !Region.waitsFor md ops n (n + 1) &&
  ((List.range n).all fun i => !Region.waitsFor md ops i (n + 1) && match ops[i]?, ops[n + 1]? with
   | some x, some y => x.apart ops y
   | _, _ => false) && lexF md ops n n 0 (Array.replicate ops.size false)
theorem headF_lex {n : Nat} {T : Act → Prop} (hsel : Region.noSelect ops = true) (hs : Region.sinkB md ops n = true) (hl : Region.waitsFor md ops (n + 2) n = true) (hz : ops.size = n + 3) :
  ∀ (l : List Oper) (k : Nat) (listed : Array Bool) (a : Act), (∀ j, j < l.length → l[j]? = ops[k + j]?) → k + l.length = n → HeadInv md ops n listed → lexF md ops n l.length k listed = true → wpTwo P ops w1 w2 T l a →
   headF P md ops w1 w2 n (fun x y => endB md ops n x = true ∧ T y) l.length listed a
 | [], k, listed, a, _, _, _, hB, h => ⟨by simpa [lexF] using hB, h⟩
 | o :: l, k, listed, a, hl', hk, inv, hB, h => by
  have h0 : ops[k]? = some o := by simpa using (hl' 0 (by simp)).symm
  simp only [List.length_cons, lexF, Bool.and_eq_true] at hB
  rw [List.length_cons] at hk
  have hr : k ∈ Region.ready md ops listed := by simpa using hB.1.1
  have hd : ∀ (x : Array Bool) (b : Act), (endB md ops n x = true ∧ T b) → ∀ j ∈ Region.ready md ops x, n ≤ j := fun x b hx j hj => by
   have := hx.1
   simp only [endB, Bool.and_eq_true, decide_eq_true_eq] at this
   rw [this.1.1.1.1] at hj
   simp at hj; omega
  have go : ∀ v, YP P ops w1 w2 o a v → wpTwo P ops w1 w2 T l (a.put o.dst v) → headF P md ops w1 w2 n (fun x y => endB md ops n x = true ∧ T y) (l.length + 1) listed a := fun v hy hK =>
   headF_first h0 (Region.noSelect_spec hsel) hs hl hz (by omega) hd l.length listed a inv (Region.free_spec h0 hB.1.2) hr hy
    (headF_lex hsel hs hl hz l (k + 1) _ _ (fun j hj => by have := hl' (j + 1) (by simpa using hj); simpa [Nat.add_assoc, Nat.add_comm 1 j] using this) (by omega) (inv.set hr (by omega)) hB.2 hK)
  unfold wpTwo at h
  by_cases hw : Region.wanted o (yielded ops a.tmps) = true
  ·rw [if_pos hw] at h
   obtain ⟨v, h1, h2, h3⟩ := h
   exact go v (.inl ⟨hw, h1, h2⟩) h3
  ·rw [if_neg hw] at h
   exact go undef (.inr ⟨by simpa using hw, rfl⟩) h
theorem getD_set_at {listed : Array Bool} {i : Nat} : (listed.setIfInBounds i true).getD i true = true := by
 rcases Nat.lt_or_ge i listed.size with h | h
 ·simp [h]
 ·simp [Array.getElem?_eq_none (show (listed.setIfInBounds i true).size ≤ i by simpa using h)]
/-- What may come up behind the box's operation might have come up ahead of it. -/
theorem ready_unset {i f : Nat} {listed : Array Bool} (hw : Region.waitsFor md ops i f = false) (h : i ∈ Region.ready md ops (listed.setIfInBounds f true)) : i ∈ Region.ready md ops listed ∧ i ≠ f := by
 obtain ⟨h0, o, ho, hall⟩ := mem_ready.1 h
 have hne : i ≠ f := fun e => by subst e; rw [getD_set_at] at h0; cases h0
 refine ⟨mem_ready.2 ⟨by rw [getD_set_ne true (Ne.symm hne)] at h0; exact h0, o, ho, fun e he hb => ?_⟩, hne⟩
 have h1 := hall e he hb
 by_cases ef : e.on = f
 ·exfalso
  unfold Region.waitsFor at hw
  rw [ho] at hw
  have := Array.any_eq_false'.1 hw e he
  simp [hb, ef] at this
 ·rwa [getD_set_ne false (Ne.symm ef)] at h1
theorem float_run {n : Nat} {of : Oper} {vf : Value} {L : Array Bool → Act → Prop} {Q : Exit → Act → World → Prop} (hf : ops[n + 1]? = some of) (hwf : ∀ y, Region.wanted of y = true) (hrun : ∀ a : Act, (execOp a.eval of).run P w1 = .ok (.value vf) w2)
  (hsel : ∀ (j : Nat) (o : Oper) cs b, ops[j]? = some o → o.op ≠ .select cs b) (hs : Region.sinkB md ops n = true) (hl : Region.waitsFor md ops (n + 2) n = true) (hc : Region.waitsFor md ops n (n + 1) = false) (hz : ops.size = n + 3)
  (hap : ∀ i, i < n → Region.waitsFor md ops i (n + 1) = false ∧ ∀ o, ops[i]? = some o → o.apart ops of = true)
  (h1 : ∀ listed a, L listed a → wpAny P md ops Q 3 listed a w1) (h2 : ∀ listed a, L listed a → wpAny P md ops Q 2 (listed.setIfInBounds (n + 1) true) (a.put of.dst vf) w2) :
  ∀ (k : Nat) (listed : Array Bool) (a : Act), HeadInv md ops n listed → headF P md ops w1 w2 n L k listed a → wpAny P md ops Q (k + 3) listed a w1 ∧ wpAny P md ops Q (k + 2) (listed.setIfInBounds (n + 1) true) (a.put of.dst vf) w2
 | 0, listed, a, _, h => by
  rw [Nat.zero_add, Nat.zero_add]
  exact ⟨h1 _ _ h, h2 _ _ h⟩
 | k + 1, listed, a, inv, h => by
  have ih := fun listed' a' inv' h' => float_run hf hwf hrun hsel hs hl hc hz hap h1 h2 k listed' a' inv' h'
  obtain ⟨⟨i0, hi0, hi0f⟩, hall⟩ := h
  have h2' : wpAny P md ops Q (k + 1 + 2) (listed.setIfInBounds (n + 1) true) (a.put of.dst vf) w2 := by
   rw [show k + 1 + 2 = (k + 2) + 1 by omega]
   refine ⟨fun h0 => (by have := ready_mono hi0 hi0f; rw [h0] at this; cases this), fun i hi => ?_⟩
   have hlt : i < n + 3 := by obtain ⟨_, o, ho, _⟩ := mem_ready.1 hi; rw [← hz]; exact (Array.getElem?_eq_some_iff.1 ho).1
   have hi' : i ∈ Region.ready md ops listed ∧ i ≠ n + 1 := by
    rcases (show i < n ∨ i = n ∨ i = n + 1 ∨ i = n + 2 by omega) with h | rfl | rfl | rfl
    ·exact ready_unset (hap i h).1 hi
    ·exact ready_unset hc hi
    ·have := (mem_ready.1 hi).1
     rw [getD_set_at] at this
     cases this
    ·obtain ⟨_, o, ho, hal⟩ := mem_ready.1 hi
     obtain ⟨o', ho', e, he, hb, heq⟩ := Region.waitsFor_spec hl
     have : o' = o := Option.some.inj (ho'.symm.trans ho)
     subst this
     have := hal e he hb
     rw [heq, getD_set_ne false (by omega), getD_both (inv.tail n (Nat.le_refl _) (by omega))] at this
     cases this
   obtain ⟨hin, o, v, ho, hy, hK⟩ := hall i hi'.1 hi'.2
   obtain ⟨e1, e2, e3⟩ := Oper.apart_spec ((hap i hin).2 o ho)
   refine wpOp_of_YP (.inr rfl) ho (hy.put (fun cs b => hsel i o cs b ho) e3) ?_
   rw [Array.setIfInBounds_comm _ _ (Ne.symm hi'.2), ← Act.put_comm a v vf e2]
   exact (ih _ _ (inv.set hi'.1 hin) hK).2
  refine ⟨?_, h2'⟩
  rw [show k + 1 + 3 = (k + 3) + 1 by omega]
  refine ⟨fun h0 => (by rw [h0] at hi0; cases hi0), fun i hi => ?_⟩
  by_cases hif : i = n + 1
  ·subst hif
   unfold wpOp
   simp only [hf, hwf, if_true]
   left
   unfold Oper.wp
   rw [hrun]
   simp only [Oper.upon]
   exact h2'
  ·obtain ⟨hin, o, v, ho, hy, hK⟩ := hall i hi hif
   exact wpOp_of_YP (.inl rfl) ho hy (ih _ _ (inv.set hi hin) hK).1
end
/-- The head, then the call, the box and the store: the box may be laid ahead of the call, or behind it. -/
theorem wp_region_float {P : Program} {id : Nat} {Q : Exit → Act → World → Prop} {a : Act} {w w2 : World} {vf : Value} {l : List Oper} (n : Nat) {oc of os : Oper} (hm : P.follows .mixedOrders = true) (hB : floatB .any l.toArray n = true) (hd : l.drop n = [oc, of, os])
  (hwf : ∀ y, Region.wanted of y = true) (hrun : ∀ a : Act, (execOp a.eval of).run P w.drew = .ok (.value vf) w2)
  (h : wpTwo P l.toArray w.drew w2 (fun a' => wpList P l.toArray Q [oc, of, os] a' w.drew ∧ wpList P l.toArray Q [oc, os] (a'.put of.dst vf) w2) (l.take n) a) : (Code.region id l.toArray true).wp P Q a w := by
 simp only [floatB, Bool.and_eq_true, decide_eq_true_eq, Bool.not_eq_true'] at hB
 obtain ⟨⟨⟨⟨⟨⟨hsel, hz⟩, hs⟩, hl⟩, hc⟩, hap⟩, hlex⟩ := hB
 have hz' : l.length = n + 3 := by simpa using hz
 have htl : (l.take n).length = n := by rw [List.length_take]; omega
 have at_ : ∀ j o, [oc, of, os][j]? = some o → l.toArray[n + j]? = some o := fun j o hj => by
  rw [← hd, List.getElem?_drop] at hj
  simpa using hj
 have hoc := at_ 0 oc rfl
 have hof := at_ 1 of rfl
 have hos := at_ 2 os rfl
 have hap' : ∀ i, i < n → Region.waitsFor .any l.toArray i (n + 1) = false ∧ ∀ o, l.toArray[i]? = some o → o.apart l.toArray of = true := fun i hi => by
  have := List.all_eq_true.1 hap i (List.mem_range.2 hi)
  simp only [Bool.and_eq_true, Bool.not_eq_true'] at this
  refine ⟨this.1, fun o ho => ?_⟩
  have h2 := this.2
  rw [ho, hof] at h2
  exact h2
 have inv0 : HeadInv .any l.toArray n (Array.replicate l.toArray.size false) :=
  ⟨by simp, fun j oj _ hl => (by rw [getD_replicate_false] at hl; cases hl), fun t _ ht => getD_in (by simpa using ht) (getD_replicate_false _ _)⟩
 have H := headF_lex (md := .any) (w1 := w.drew) (w2 := w2) hsel hs hl hz (l.take n) 0 _ a (fun j hj => by rw [htl] at hj; simp [hj]) (by simpa using htl) inv0 (by rw [htl]; exact hlex) h
 refine wp_region_any hm ?_
 have key : ∀ (i : Nat) (o : Oper) (K : Act → World → Prop) (rest : List Oper) (b : Act) (W : World), l.toArray[i]? = some o → wpList P l.toArray Q (o :: rest) b W → (∀ b' W', wpList P l.toArray Q rest b' W' → K b' W') → wpOp P l.toArray Q i K b W := fun i o K rest b W ho hw hK => by
  refine wpOp_mono hK ?_
  unfold wpOp
  simp only [ho]
  exact hw
 have R := (float_run (md := .any) (Q := Q) hof hwf hrun (Region.noSelect_spec hsel) hs hl hc hz hap'
  (fun listed b hL => by
   have hE := hL.1
   simp only [endB, Bool.and_eq_true, decide_eq_true_eq] at hE
   obtain ⟨⟨⟨⟨e1, e2⟩, e3⟩, e4⟩, e5⟩ := hE
   refine ⟨fun h0 => (by rw [h0] at e1; cases e1), fun i hi => ?_⟩
   rw [e1] at hi
   rcases (show i = n ∨ i = n + 1 by simpa using hi) with rfl | rfl
   ·refine key i oc _ _ b _ hoc hL.2.1 fun b' W' hb => ?_
    exact wpAny_of_seq (md := .any) (Q' := Q) [of, os] (i + 1) _ b' W' (fun j => by
     rcases j with _ | _ | j
     ·exact hof.symm
     ·exact hos.symm
     ·rw [Array.getElem?_eq_none (by omega)]; rfl) e2 hb
   ·unfold wpOp
    simp only [hof, hwf, if_true]
    left
    unfold Oper.wp
    rw [hrun]
    simp only [Oper.upon]
    refine ⟨fun h0 => (by rw [h0] at e3; cases e3), fun i hi => ?_⟩
    rw [e3] at hi
    obtain rfl : i = n := by simpa using hi
    refine key i oc _ _ _ _ hoc hL.2.2 fun b' W' hb => ?_
    refine ⟨fun h0 => (by rw [h0] at e4; cases e4), fun j hj => ?_⟩
    rw [e4] at hj
    obtain rfl : j = i + 2 := by simpa using hj
    exact key (i + 2) os _ _ _ _ hos hb fun b'' W'' hb' => ⟨e5, hb'⟩)
  (fun listed b hL => by
   have hE := hL.1
   simp only [endB, Bool.and_eq_true, decide_eq_true_eq] at hE
   obtain ⟨⟨⟨⟨e1, e2⟩, e3⟩, e4⟩, e5⟩ := hE
   refine ⟨fun h0 => (by rw [h0] at e3; cases e3), fun i hi => ?_⟩
   rw [e3] at hi
   obtain rfl : i = n := by simpa using hi
   refine key i oc _ _ _ _ hoc hL.2.2 fun b' W' hb => ?_
   refine ⟨fun h0 => (by rw [h0] at e4; cases e4), fun j hj => ?_⟩
   rw [e4] at hj
   obtain rfl : j = i + 2 := by simpa using hj
   exact key (i + 2) os _ _ _ _ hos hb fun b'' W'' hb' => ⟨e5, hb'⟩)
  _ _ _ inv0 H).1
 rw [htl, ← hz] at R
 exact R
end Go.Proofs.YtbbdhknagofghaaGreat

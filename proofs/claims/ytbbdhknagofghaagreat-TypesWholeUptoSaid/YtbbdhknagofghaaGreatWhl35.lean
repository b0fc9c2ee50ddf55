import Derived.RangeFuncNested
import Derived.RangeFuncBound
import Derived.RangeFuncCalls
import Derived.RangeFuncLeaves
import Derived.LoopIn
import Derived.Test.YtbbdhknagofghaaGreatWhl30
import Derived.Shelf.Abstract
import Derived.OwnWalkIn
import Derived.TacticsInMore
import Derived.LoopNIn
import Derived.Laws.EntriesVeiled
import Derived.Outline
import Derived.Shelf.AbstractIn
import Derived.Test.YtbbdhknagofghaaGreatWhl25
import Derived.Orders
import Derived.Test.YtbbdhknagofghaaGreatWhl07
import Derived.Deep.DeepCutAuto
import Derived.Deep.CutBlock
import Derived.Test.YtbbdhknagofghaaGreatWhl04
import Derived.Test.YtbbdhknagofghaaGreatWhl08
import Derived.Test.YtbbdhknagofghaaGreatWhl34
import Derived.Test.YtbbdhknagofghaaGreatWhl12
import Derived.Test.YtbbdhknagofghaaGreatWhl21
import Derived.Test.YtbbdhknagofghaaGreatWhl22
import Derived.Test.YtbbdhknagofghaaGreatWhl23
import Derived.Test.YtbbdhknagofghaaGreatWhl24
import Derived.Test.YtbbdhknagofghaaGreatWhl10
import Derived.Test.YtbbdhknagofghaaGreatWhl13
import Derived.Deep.RegionHeld3
set_option linter.all false
/-! A range over a function whose rounds all go on, where the round may read what it is handed ('R'): own law over the kit's 'wpIn_rangeFunc'. -/
namespace Go.Proofs.YtbbdhknagofghaaGreat
open Go.RowKit
theorem round_wide0 {m n l : Nat} {P : Program} {fn : FuncId} {tmps : Array Value} {assign body : Code} {W : World} {R : Ending → World → Prop} (h : RoundIn Fence.wide m P l fn tmps assign body W R) :
  RoundIn Fence.wide n P l fn tmps assign body W R := ⟨trivial, fun c cs _ => h.2 c cs (room_wide _)⟩
/-- What a round keeps: whatever is no cells, and the cells of all types but those of ex. -/
structure Kp (ex : TypeId → Bool) (W W' : World) : Prop where
 os : W'.os = W.os
 tape : W'.tape = W.tape
 output : W'.output = W.output
 size : W.heap.size ≤ W'.heap.size
 same : ∀ (k : Nat) (o : Obj), W.heap[k]? = some o → (∀ cs t fr, o = .cells cs t fr → ex t = false) → W'.heap[k]? = some o
section
variable {ex : TypeId → Bool} {A B C W W' : World}
theorem Kp.refl (ex : TypeId → Bool) (W : World) : Kp ex W W := ⟨rfl, rfl, rfl, Nat.le_refl _, fun _ _ h _ => h⟩
theorem Kp.trans (h : Kp ex A B) (k : Kp ex B C) : Kp ex A C :=
 ⟨k.os.trans h.os, k.tape.trans h.tape, k.output.trans h.output, Nat.le_trans h.size k.size, fun i o hi ho => k.same i o (h.same i o hi ho) ho⟩
theorem Kp.of_below (ex : TypeId → Bool) (h : Below W.heap.size W W') : Kp ex W W' :=
 ⟨h.os, h.tape, h.output, h.size, fun k o hk _ => (h.block k (Array.getElem?_eq_some_iff.1 hk).1).trans hk⟩
theorem Kp.of_grown {g : Nat} {cs : Array Value} {t : TypeId} {fr : Nat × Nat} (hg : W.grownBy W' (some g)) (hb : W.heap[g]? = some (.cells cs t fr)) (hex : ex t = true) : Kp ex W W' :=
 ⟨hg.os, hg.tape, hg.output, hg.size, fun k o hk ho => by
  by_cases e : k = g
  ·subst e
   rw [hb] at hk; injection hk with hk
   rw [ho _ _ _ hk.symm] at hex; cases hex
  ·exact (hg.block k (Array.getElem?_eq_some_iff.1 hk).1 (fun e' => e (by injection e'))).trans hk⟩
theorem Kp.other (h : Kp ex W W') {k : Nat} {o : Obj} (hk : W.heap[k]? = some o) (ho : o.isCells = false) : W'.heap[k]? = some o :=
 h.same k o hk (fun cs t fr e => by subst e; cases ho)
theorem Kp.box (h : Kp ex W W') {k : Nat} {t : TypeId} {v : Value} (hk : Boxed W k t v) (ht : ex t = false) : Boxed W' k t v :=
 h.same k _ hk (fun cs t' fr e => by cases e; exact ht)
theorem Kp.own (h : Kp ex W W') {base : Nat} {e : TypeId} {size n : Nat} {v : Value} {xs : List Value} (ho : W.ownsRow base e size v n xs) (ht : ex e = false) : W'.ownsRow base e size v n xs := by
 refine ⟨ho.1, ?_⟩
 rcases ho.2 with h2 | ⟨g, cap, cur, hv, hg, hh, r⟩
 ·exact .inl h2
 ·exact .inr ⟨g, cap, cur, hv, hg, h.same _ _ hh (fun cs t' fr e => by cases e; exact ht), r⟩
theorem own_rowFrom {β : Type} (base : Nat) (e : TypeId) (size : Nat) (v : Value) (n : Nat) (xs : List Value) : Own (fun (_ : β) W => W.ownsRow base e size v n xs) := fun _ X Y row hs hg hr => by
 refine ⟨hs.1, ?_⟩
 rcases hs.2 with h2 | ⟨g, cap, cur, hv, hb, hh, r⟩
 ·exact .inl h2
 ·exact .inr ⟨g, cap, cur, hv, hb, (grownBy_keeps_cells hg hr hh rfl).trans hh, r⟩
end
/-- The marks that ranges over functions leave on an activation. -/
def mark (D : Nat) : Deferred := { target := .collected D, args := #[] }
def Marked (B : Nat) (Ds : List Nat) (W : World) : Prop := Ds.Nodup ∧ ∀ D ∈ Ds, B ≤ D ∧ W.heap[D]? = some (.deferred (some []))
theorem Marked.nil (B : Nat) (W : World) : Marked B [] W := ⟨List.nodup_nil, fun _ h => by simp at h⟩
theorem Marked.kp {ex : TypeId → Bool} {B : Nat} {Ds : List Nat} {W W' : World} (h : Marked B Ds W) (hk : Kp ex W W') : Marked B Ds W' := ⟨h.1, fun D hD => ⟨(h.2 D hD).1, hk.other (h.2 D hD).2 rfl⟩⟩
theorem Marked.cons {B D : Nat} {Ds : List Nat} {W W' : World} (h : Marked B Ds W) (hB : B ≤ W.heap.size) (hD : W.heap.size ≤ D) (hW : W'.heap[D]? = some (.deferred (some []))) (hk : ∀ E ∈ Ds, W'.heap[E]? = some (.deferred (some []))) : Marked B (D :: Ds) W' :=
 ⟨List.nodup_cons.2 ⟨fun hm => by have := (Array.getElem?_eq_some_iff.1 (h.2 D hm).2).1; omega, h.1⟩, fun E hE => by
  rcases List.mem_cons.1 hE with rfl | hE
  ·exact ⟨by omega, hW⟩
  ·exact ⟨(h.2 E hE).1, hk E hE⟩⟩
/-- At the return: the marks are come to, one after another. -/
theorem leaves_marks {n B : Nat} {P : Program} {fn : Func} {tmps : Array Value} {R : Ending → World → Prop} (J : World → Prop) (hJ : OwnFrom B (fun (_ : Unit) W => J W))
  (hend : ∀ W, J W → LeavesIn Fence.wide n P fn tmps R [] .returning W) : ∀ (Ds : List Nat) (W : World), Marked B Ds W → J W → LeavesInM Fence.wide n P fn tmps R (Ds.map mark) .returning W
 | [], W, _, h => hend W h
 | D :: Ds, W, hm, h => by
  have hD := hm.2 D List.mem_cons_self
  refine ⟨by simp, .inl ⟨D, _, rfl, run_takeDeferred hD.2, ?_⟩⟩
  have hn := List.nodup_cons.1 hm.1
  refine leaves_marks J hJ hend Ds _ ⟨hn.2, fun E hE => ⟨(hm.2 E (List.mem_cons_of_mem _ hE)).1, ?_⟩⟩ (hJ.putObj (s := ()) _ h hD.1 hD.2 rfl)
  rw [World.putObj_heap_other (show E ≠ D from fun e => hn.1 (by rw [← e]; exact hE))]
  exact (hm.2 E (List.mem_cons_of_mem _ hE)).2
theorem kp_putObj {ex : TypeId → Bool} {W W' : World} {l : Nat} {o o' : Obj} (h : Kp ex (W.putObj l o) W') (hl : W.heap[l]? = some o') :
  Kp ex W (W'.putObj l o') := by
 refine ⟨h.os, h.tape, h.output, by simpa using h.size, fun k x hk hx => ?_⟩
 by_cases e : k = l
 ·subst e
  rw [hl] at hk; injection hk with hk; subst hk
  refine World.putObj_heap_same ?_
  have := h.size; simp at this
  have := (Array.getElem?_eq_some_iff.1 hl).1
  omega
 ·rw [World.putObj_heap_other e]
  exact h.same k x (by rw [World.putObj_heap_other e]; exact hk) hx
end Go.Proofs.YtbbdhknagofghaaGreat
/-! A range over a function whose rounds may stop it by a return: the law, over the kit's 'wpIn_rangeFunc'. -/
namespace Go.Proofs.YtbbdhknagofghaaGreat
open Go.RowKit
/-- One call of yield: it tells to go on (c), and R; or not to, and S. -/
def YldS (P : Program) (l : Nat) (v : Value) (W : World) (c : Bool) (R S : World → Prop) : Prop :=
 ∃ m, YieldAt Fence.wide m P l #[v] W fun e W' => e = .returned (.bool c) ∧ (c = true → R W') ∧ (c = false → S W')
/-- An iterator that stops where it is told to. -/
def GivesS {α : Type} (P : Program) (gf : Nat) (lb : Array Value) (R : α → Value → World → Prop) (ex : TypeId → Bool) (xs : List α) (go : α → Bool) (K : World → Prop) (w : World) : Prop :=
 ∀ (l : Nat) (J S : Nat → World → Prop) (W : World), Below w.heap.size w W → OwnFrom W.heap.size J → OwnFrom W.heap.size S → (∀ k W', J k W' → K W') →
  (∀ k x v W1, xs[k]? = some x → J k W1 → R x v W1 → YldS P l v W1 (go x) (fun W' => J (k + 1) W' ∧ Kp ex W1 W') (S k)) →
  J 0 W → Calls P gf (#[.func (.yield l) #[] #[]] ++ lb) W fun e W' => (∃ v, e = .returned v) ∧ ((J xs.length W' ∧ Kp ex W W') ∨ ∃ k, k < xs.length ∧ S k W')
/-- The law: an outermost loop over an iterator that 'GivesS'. -/
theorem wp_rangeS {α : Type} {n : Nat} {P : Program} {g : Operand} {ps : Array Tmp} {assign body : Code} {Q : Exit → Act → World → Prop} {a : Act} {w w0 : World} {gf : Nat} {lb : Array Value}
  {R : α → Value → World → Prop} {ex : TypeId → Bool} {xs : List α}
  (hg : a.eval g = .func (.func gf) #[] lb) (eg : ∀ args w, (callFunc gf args).run P w = .ok (.enter gf args) w) {go : α → Bool} {K : World → Prop} (hseq : GivesS P gf lb R ex xs go K w0) (hb0 : Below w0.heap.size w0 w) (hps : ps.size = 1)
  (hR : ∀ x v, OwnFrom w.heap.size (fun (_ : Unit) W => R x v W)) (I Ix : Nat → World → Prop) (hI : OwnFrom w.heap.size I) (hIx : OwnFrom w.heap.size Ix) (hIK : ∀ k W', I k W' → K W') (h0 : I 0 w) (a₁ : Value → World → Act) (W₁ : Value → World → World) (hW₁ : ∀ v W, Below W.heap.size W (W₁ v W))
  (hassign : ∀ (l : Nat) (x : α) (v : Value) (W : World) (K : Act → World → Prop), R x v W → K (a₁ v W) (W₁ v W) →
   assign.wpIn (Fence.wide.inRound l) n P (Exit.then K (fun _ _ _ => False)) { tmps := (ps.zip #[v]).foldl (fun t (p, v) => t.setIfInBounds p v) a.tmps, defers := [] } W)
  (hbody : ∀ (l k : Nat) (x : α) (v : Value) (W0 W : World), w.heap.size ≤ l → xs[k]? = some x → R x v W0 → (∀ (k : Nat) (o : Obj), (W₁ v W0).heap[k]? = some o → o.isCells = true → W.heap[k]? = some o) → I k W → R x v W →
   body.wpIn (Fence.wide.inRound l) n P (fun e _ W' => (e = .normal ∧ go x = true ∧ Kp ex W W' ∧ I (k + 1) W') ∨ (e = .ret ∧ go x = false ∧ Kp ex W W' ∧ Ix k W')) (a₁ v W0) W)
  (hdone : ∀ (D : Nat) (W : World), D = w.heap.size → I xs.length W → W.heap[D]? = some (.deferred (some [])) → Kp ex w W → Q .normal { a with defers := mark D :: a.defers } W)
  (hstop : ∀ (D k : Nat) (W : World), D = w.heap.size → k < xs.length → Ix k W → W.heap[D]? = some (.deferred (some [])) → Code.ret.wpIn Fence.wide n P Q { a with defers := mark D :: a.defers } W) :
  (Code.rangeFunc g ps assign body).wpIn Fence.wide n P Q a w := by
 refine wpIn_rangeFunc ?_
 intro fn hfn
 obtain ⟨rec, hrec⟩ : ∃ rec : LoopState → Option Code → Loop, rec = fun st pe => { state := st, pending := pe, fn, tmps := a.tmps, params := ps, assign, body, defers := w.heap.size } := ⟨_, rfl⟩
 have hps' : ∀ st pe, (rec st pe).params = ps := fun st pe => by rw [hrec]
 obtain ⟨W1, hW1⟩ : ∃ W1, (w.alloc (.deferred (some []))).alloc (.loop (rec .ready none)) = W1 := ⟨_, rfl⟩
 have bW1 : Below w.heap.size w W1 := by rw [← hW1]; exact ((Below.refl _ w).alloc (Nat.le_refl _) _).alloc (by simp) _
 have sW1 : W1.heap.size = w.heap.size + 2 := by rw [← hW1]; simp
 have hL1 : W1.heap[w.heap.size + 1]? = some (.loop (rec .ready none)) := by
  rw [← hW1]; have := World.alloc_heap_new (w.alloc (.deferred (some []))) (.loop (rec .ready none)); rwa [World.size_alloc] at this
 have hK1 : W1.heap[w.heap.size]? = some (.deferred (some [])) := by
  rw [← hW1]; exact (Below.heap_alloc _ _ _ (by simp)).trans (World.alloc_heap_new w _)
 have hI1 : I 0 W1 := by rw [← hW1]; exact hI.alloc _ (hI.alloc _ h0)
 refine ⟨w.heap.size + 1, [mark w.heap.size], W1, { target := .fn (.func gf) lb, args := #[.func (.yield (w.heap.size + 1)) #[] #[]] }, W1, gf, #[.func (.yield (w.heap.size + 1)) #[] #[]] ++ lb, W1, ?_, ?_, ?_, ?_, fun h => absurd h (by simp [Fence.wide]), ?_⟩
 ·rw [← hW1, hrec]; exact run_enterLoop_outer _ _ _ _ _
 ·simp only [resolve, hg]
  simp [go_sem]
 ·intro f' _; exact trivial
 ·simp [invoke, go_sem, eg]
 ·have own3 : ∀ (st : LoopState) (pe : Option Code) (X : Nat → World → Prop), OwnFrom w.heap.size X → OwnFrom W1.heap.size (fun k W => X k W ∧ W.heap[w.heap.size + 1]? = some (.loop (rec st pe)) ∧ W.heap[w.heap.size]? = some (.deferred (some [])) ∧ Kp ex w W) := by
   intro st pe X hX s A B row hs hg' hr
   obtain ⟨i1, i2, i3, i4⟩ := hs
   have far : ∀ k, k < W1.heap.size → B.heap[k]? = A.heap[k]? ∨ A.heap[k]? = none := fun k hk => by
    by_cases hlt : k < A.heap.size
    ·exact .inl (hg'.block k hlt (fun e => by have := (hr _ e.symm).1; omega))
    ·exact .inr (Array.getElem?_eq_none (by omega))
   refine ⟨hX s A B row i1 hg' (fun r e => ⟨by have := (hr r e).1; omega, (hr r e).2⟩), ?_, ?_, ?_⟩
   ·rcases far (w.heap.size + 1) (by omega) with h | h
    ·rw [h]; exact i2
    ·rw [i2] at h; cases h
   ·rcases far w.heap.size (by omega) with h | h
    ·rw [h]; exact i3
    ·rw [i3] at h; cases h
   ·refine ⟨hg'.os.trans i4.os, hg'.tape.trans i4.tape, hg'.output.trans i4.output, Nat.le_trans i4.size hg'.size, fun k o hk ho => ?_⟩
    have hkw := (Array.getElem?_eq_some_iff.1 hk).1
    have hA := i4.same k o hk ho
    rcases far k (by omega) with h | h
    ·rw [h]; exact hA
    ·rw [hA] at h; cases h
  have own2 : OwnFrom W1.heap.size (fun k W => Ix k W ∧ W.heap[w.heap.size + 1]? = some (.loop (rec .done (some .ret))) ∧ W.heap[w.heap.size]? = some (.deferred (some []))) := by
   intro s A B row hs hg' hr
   obtain ⟨i1, i2, i3⟩ := hs
   have far : ∀ k, k < W1.heap.size → B.heap[k]? = A.heap[k]? ∨ A.heap[k]? = none := fun k hk => by
    by_cases hlt : k < A.heap.size
    ·exact .inl (hg'.block k hlt (fun e => by have := (hr _ e.symm).1; omega))
    ·exact .inr (Array.getElem?_eq_none (by omega))
   refine ⟨hIx s A B row i1 hg' (fun r e => ⟨by have := (hr r e).1; omega, (hr r e).2⟩), ?_, ?_⟩
   ·rcases far (w.heap.size + 1) (by omega) with h | h
    ·rw [h]; exact i2
    ·rw [i2] at h; cases h
   ·rcases far w.heap.size (by omega) with h | h
    ·rw [h]; exact i3
    ·rw [i3] at h; cases h
  refine callsIn_wide.2 ((hseq (w.heap.size + 1) (fun k W => I k W ∧ W.heap[w.heap.size + 1]? = some (.loop (rec .ready none)) ∧ W.heap[w.heap.size]? = some (.deferred (some [])) ∧ Kp ex w W)
   (fun k W => Ix k W ∧ W.heap[w.heap.size + 1]? = some (.loop (rec .done (some .ret))) ∧ W.heap[w.heap.size]? = some (.deferred (some []))) W1 (hb0.trans (bW1.mono hb0.size)) (own3 _ _ _ hI) own2 (fun k W' h => hIK k W' h.1) ?_
   ⟨hI1, hL1, hK1, Kp.of_below ex bW1⟩).mono ?_)
  ·rintro k x v W hx ⟨hi, hl, hk, hkp⟩ hr
   have hlt : w.heap.size + 1 < W.heap.size := (Array.getElem?_eq_some_iff.1 hl).1
   have hy := run_yield (P := P) (args := #[v]) hl (by rw [hps', hps]; rfl)
   refine ⟨n, (rec .ready none).fn, _, (rec .ready none).assign, (rec .ready none).body, hy, ?_⟩
   have e1 : (rec .ready none).fn = fn := by rw [hrec]
   have e2 : (rec .ready none).assign = assign := by rw [hrec]
   have e3 : (rec .ready none).body = body := by rw [hrec]
   have e4 : (rec .ready none).tmps = a.tmps := by rw [hrec]
   rw [e1, e2, e3, e4, hps']
   refine roundIn_of_wpIn hfn (hassign _ x v W _ hr ?_)
   have hst : (rec .ready none).state = .ready := by rw [hrec]
   have bX := hW₁ v W
   obtain ⟨X, hX⟩ : ∃ X, W₁ v W = X := ⟨_, rfl⟩
   have hkeep : ∀ (k : Nat) (o : Obj), (W₁ v W).heap[k]? = some o → o.isCells = true → (X.putObj (w.heap.size + 1) (.loop (rec .busy none))).heap[k]? = some o := fun k o hko hoc => by
    rw [hX] at hko
    rw [World.putObj_heap_other (show k ≠ w.heap.size + 1 from fun e => ?_)]
    ·exact hko
    ·subst e
     have := (hX ▸ bX).block (w.heap.size + 1) hlt
     rw [this, hl] at hko
     injection hko with hko
     subst hko
     cases hoc
   rw [hX] at bX ⊢
   have hlX : X.heap[w.heap.size + 1]? = some (.loop (rec .ready none)) := (bX.block _ hlt).trans hl
   have hkX : X.heap[w.heap.size]? = some (.deferred (some [])) := (bX.block _ (by omega)).trans hk
   have hgX : W.grownBy X none := ⟨bX.os, bX.tape, bX.output, bX.size, fun i hi _ => bX.block i hi⟩
   have hiX : I k X := hI k W X none hi hgX (fun r e => by cases e)
   have hrX : R x v X := hR x v () W X none hr hgX (fun r e => by cases e)
   have hltX : w.heap.size + 1 < X.heap.size := (Array.getElem?_eq_some_iff.1 hlX).1
   refine ⟨_, run_beginRound hlX hst, ?_⟩
   have eb : ({ rec .ready none with state := .busy } : Loop) = rec .busy none := by rw [hrec]
   rw [eb]
   have hl2 : (X.putObj (w.heap.size + 1) (.loop (rec .busy none))).heap[w.heap.size + 1]? = some (.loop (rec .busy none)) := World.putObj_heap_same hltX
   refine wpIn_mono (hbody _ k x v W _ (by omega) hx hr hkeep (hI.putObj _ hiX (by omega) hlX rfl) ((hR x v).putObj (s := ()) _ hrX (by omega) hlX rfl)) ?_
   rintro e a3 W3 (⟨rfl, hgo, hk3, hi3⟩ | ⟨rfl, hgo, hk3, hi3⟩)
   ·have hl3 := hk3.other hl2 rfl
    have hr3 := run_endRound (P := P) none hl3
    have ec : ({ rec .busy none with state := if (none : Option Code).isNone then .ready else .done, pending := none } : Loop) = rec .ready none := by rw [hrec]; rfl
    rw [ec] at hr3
    have kp3 := kp_putObj hk3 hlX
    have kp4 := (Kp.of_below ex bX).trans kp3
    have hlt3 : w.heap.size + 1 < W3.heap.size := (Array.getElem?_eq_some_iff.1 hl3).1
    exact ⟨_, _, hr3, by rw [hgo]; rfl, fun _ => ⟨⟨hI.putObj _ hi3 (by omega) hl3 rfl, World.putObj_heap_same hlt3, kp3.other hkX rfl, hkp.trans kp4⟩, kp4⟩, fun h => by rw [hgo] at h; cases h⟩
   ·have hl3 := hk3.other hl2 rfl
    have hr3 := run_endRound (P := P) (some .ret) hl3
    have ec : ({ rec .busy none with state := if (some Code.ret).isNone then .ready else .done, pending := some .ret } : Loop) = rec .done (some .ret) := by rw [hrec]; rfl
    rw [ec] at hr3
    have hlt3 : w.heap.size + 1 < W3.heap.size := (Array.getElem?_eq_some_iff.1 hl3).1
    exact ⟨_, _, hr3, by rw [hgo]; rfl, fun h => (by rw [hgo] at h; cases h), fun _ => ⟨hIx.putObj _ hi3 (by omega) hl3 rfl, World.putObj_heap_same hlt3, (World.putObj_heap_other (by omega)).trans (hk3.other ((World.putObj_heap_other (by omega)).trans hkX) rfl)⟩⟩
  ·rintro e W2 ⟨⟨v, rfl⟩, hJS⟩
   have kpo : ∀ (pe : Option Code) (st : LoopState) (o : Obj), W2.heap[w.heap.size + 1]? = some (.loop (rec st pe)) → Kp ex w W2 → Kp ex w (W2.putObj (w.heap.size + 1) o) := fun pe st o hl hkp => by
    refine ⟨hkp.os, hkp.tape, hkp.output, by simpa using hkp.size, fun k o hk' ho => ?_⟩
    have := (Array.getElem?_eq_some_iff.1 hk').1
    rw [World.putObj_heap_other (by omega)]
    exact hkp.same k o hk' ho
   rcases hJS with ⟨⟨hi, hl, hk, hkp⟩, _⟩ | ⟨k, hkl, hi, hl, hk⟩
   ·have hst : (rec .ready none).state ≠ .busy := by rw [hrec]; simp
    have hr2 := run_endLoop (P := P) hl hst
    have hp : (rec .ready none).pending = none := by rw [hrec]
    rw [hp] at hr2
    exact ⟨none, _, hr2, hdone _ _ rfl (hI.putObj _ hi (by omega) hl rfl) ((World.putObj_heap_other (by omega)).trans hk) (kpo _ _ _ hl hkp)⟩
   ·have hst : (rec .done (some .ret)).state ≠ .busy := by rw [hrec]; simp
    have hr2 := run_endLoop (P := P) hl hst
    have hp : (rec .done (some .ret)).pending = some .ret := by rw [hrec]
    rw [hp] at hr2
    exact ⟨some .ret, _, hr2, hstop _ k _ rfl hkl (hIx.putObj _ hi (by omega) hl rfl) ((World.putObj_heap_other (by omega)).trans hk)⟩
end Go.Proofs.YtbbdhknagofghaaGreat
/-! Layer 7: the items, told one after another to a yield: many. -/
namespace Go.Proofs.YtbbdhknagofghaaGreat
open Go.RowKit
attribute [local go_sem] Oper.semAt_some
def itC (x : It) (scs : List Value) : List Value := .int .u8 x.kind :: .int .i64 x.a :: .int .i64 x.b :: scs
def zStC : List Value := [.int .u8 0, .string strE, .string strE, .int .u8 0, .int .i64 0, .int .u64 0, .int .u64 0, .string strE, .string strE, .int .i64 0, .int .i64 0, .slice none 0 0, .slice none 0 0, .slice none 0 0]
theorem rSt_zero (w : World) (B : Nat) : rSt w B zStC zSt := by
 have he : rEx w B (exC 0 zLt strE strE 0 0 none ([] : List Ex).length 0) zEx := RE.intro ⟨by unfold u8; omega, by unfold okLt zLt i64 u64; simp, by decide, by decide, by unfold i64; omega, by unfold i64; omega⟩ (by simp [depthL, sm]) Sl.nil_
 exact RS.intro (thn := []) (els := []) (A := none) (A' := none) (cap := 0) (cap' := 0) ⟨by unfold u8; omega, by decide, by decide⟩ ⟨Nat.zero_le _, Nat.zero_le _⟩ he Sl.nil_ Sl.nil_
/-- What is handed to yield reads as an item, in the memory below B. -/
def itR (B : Nat) (x : It) (v : Value) (W : World) : Prop := ∃ cs : List Value, v = .agg cs.toArray ∧ rIt W B cs x
theorem itR_zero (B : Nat) (kind a b : Int) (W : World) : itR B ⟨kind, a, b, zSt⟩ (.agg #[.int .u8 kind, .int .i64 a, .int .i64 b, .int .u8 0, .string (ByteArray.mk #[]), .string (ByteArray.mk #[]), .int .u8 0, .int .i64 0, .int .u64 0, .int .u64 0, .string (ByteArray.mk #[]), .string (ByteArray.mk #[]), .int .i64 0, .int .i64 0, .slice none 0 0, .slice none 0 0, .slice none 0 0]) W :=
 ⟨_, rfl, _, rfl, rSt_zero W B⟩
def exI : TypeId → Bool := fun t => t == 3 || t == 33 || t == 36 || t == 49
/-- Does it go on at all places from j on, n of them? -/
def runB (g : Nat → Bool) (j n : Nat) : Bool := (List.range n).all fun i => g (j + i)
theorem runB_zero (g : Nat → Bool) (j : Nat) : runB g j 0 = true := rfl
theorem runB_add (g : Nat → Bool) (j a b : Nat) : runB g j (a + b) = (runB g j a && runB g (j + a) b) := by
 unfold runB
 rw [List.range_add, List.all_append, List.all_map]
 congr 2
 funext i
 simp [Nat.add_assoc]
theorem runB_one (g : Nat → Bool) (j : Nat) : runB g j 1 = g j := by simp [runB]
theorem runB_succ (g : Nat → Bool) (j a : Nat) : runB g j (a + 1) = (runB g j a && g (j + a)) := by rw [runB_add, runB_one]
theorem runB_stop {g : Nat → Bool} {j a n : Nat} (h : runB g j a = false) (hn : a ≤ n) : runB g j n = false := by
 obtain ⟨b, rfl⟩ := Nat.exists_eq_add_of_le hn
 rw [runB_add, h]; rfl
/-- The law of yield, over all items. -/
def Yl (l : Nat) (B : Nat) (xs : List It) (g : Nat → Bool) (J S : Nat → World → Prop) : Prop :=
 ∀ k x v W1, xs[k]? = some x → J k W1 → itR B x v W1 → YldS Tryz.prog l v W1 (g k) (fun W' => J (k + 1) W' ∧ Kp exI W1 W') (S k)
/-- What has been told: m of them from the j-th one on; or it was stopped. -/
def Told (n : Nat) (g : Nat → Bool) (J S : Nat → World → Prop) (W : World) (j m : Nat) (e : Ending) (W' : World) : Prop :=
 e = .returned (.bool (runB g j m)) ∧ (runB g j m = true → J (j + m) W' ∧ Kp exI W W') ∧ (runB g j m = false → ∃ k, k < n ∧ S k W')
theorem told_yes {n : Nat} {g : Nat → Bool} {J S : Nat → World → Prop} {W W' : World} {j m : Nat} (h : runB g j m = true) (hJ : J (j + m) W') (hk : Kp exI W W') : Told n g J S W j m (.returned (.bool true)) W' :=
 ⟨by rw [h], fun _ => ⟨hJ, hk⟩, fun h' => by rw [h] at h'; cases h'⟩
theorem told_no {n : Nat} {g : Nat → Bool} {J S : Nat → World → Prop} {W W' : World} {j m : Nat} (h : runB g j m = false) (hS : ∃ k, k < n ∧ S k W') : Told n g J S W j m (.returned (.bool false)) W' :=
 ⟨by rw [h], fun h' => (by rw [h] at h'; cases h'), fun _ => hS⟩
theorem own_step_none {B : Nat} {J : Nat → World → Prop} (h : OwnFrom B J) {k : Nat} {W W' : World} (hs : J k W) (hb : Below W.heap.size W W') : J k W' :=
 h k W W' none hs ⟨hb.os, hb.tape, hb.output, hb.size, fun i hi _ => hb.block i hi⟩ (fun r e => by cases e)
def muSlot (s n : Nat) (a : Act) (_ : World) : Nat := match a.tmps[s]? with
 | some (Value.int _ x) => ((n : Int) - x).toNat
 | _ => 0
set_option maxRecDepth 100000 in
set_option maxHeartbeats 2000000 in
theorem many_tells {l B : Nat} {xs : List It} {g : Nat → Bool} {J S : Nat → World → Prop} (hY : Yl l B xs g J S) (kind a : Int) (n j : Nat) (hn : n ≤ 9223372036854775807) (h : ∀ i : Nat, i < n → xs[j + i]? = some ⟨kind, a, (i : Int), zSt⟩) (W : World) (hJ : J j W) :
  Calls Tryz.prog 74 #[.int .u8 kind, .int .i64 a, .int .i64 (n : Int), .func (.yield l) #[] #[]] W (Told xs.length g J S W j n) := by
 refine (callsIn_wide (n := 3)).1 (callsIn_of_wp_marks Tryz.func74 rfl trivial ?_)
 simp only [Tryz.ntmps74, List.size_toArray, List.length_cons, List.length_nil, Nat.reduceAdd, Nat.reduceSub, Array.replicate_succ, Array.replicate_zero, List.push_toArray, List.append_toArray, List.nil_append, List.cons_append]
 gi_wp2
 refine wpIn_loop (fun a1 W' => ∃ (k : Nat) (u9 u12 u13 u14 u15 u16 u17 u18 u19 u20 u21 : Value), k ≤ n ∧ runB g j k = true ∧ J (j + k) W' ∧ Kp exI W W' ∧
   a1 = { tmps := #[.int .u8 kind, .int .i64 a, .int .i64 (n : Int), .func (.yield l) #[] #[], undef, undef, undef, undef, .bool false, u9, .int .i64 (n : Int), .int .i64 (k : Int), u12, u13, u14, u15, u16, u17, u18, u19, u20, u21], defers := [] })
   (muSlot 11 n) ⟨0, undef, undef, undef, undef, undef, undef, undef, undef, undef, undef, undef, Nat.zero_le _, runB_zero _ _, hJ, Kp.refl _ _, rfl⟩ ?_
 rintro a1 W' ⟨k, u9, u12, u13, u14, u15, u16, u17, u18, u19, u20, u21, hk, hrun, hJ', hkp, rfl⟩
 by_cases hlt : k < n
 ·have hlt1 : (k : Int) < (n : Int) := by omega
  obtain ⟨mm, fn, tmps, assign, body, hy, hR⟩ := hY _ _ _ W' (h k hlt) hJ' (itR_zero B kind a (k : Int) W')
  have hx0 := hide (h k hlt)
  have hsuc := hide (runB_succ g j k)
  have hrun' := hide hrun
  clear h hJ hJ' hrun
  gi_wp2
  refine (round_wide0 hR).mono ?_
  rintro e W3 ⟨rfl, h1, h2⟩
  cases hc : g (j + k) with
  | true =>
   obtain ⟨hJ3, hk3⟩ := h1 hc
   have hJN := hide (show J (j + (k + 1)) W3 from hJ3)
   have hkN := hide (hkp.trans hk3)
   have hrN := hide (show runB g j (k + 1) = true from by rw [hsuc.out, hrun'.out, hc]; rfl)
   clear h1 h2 hJ3 hk3 hc
   gi_wp2
   refine ⟨⟨k + 1, _, _, _, _, _, _, _, _, _, _, _, by omega, hrN.out, hJN.out, hkN.out, rfl⟩, ?_⟩
   simp only [muSlot, List.getElem?_toArray, List.getElem?_cons_succ, List.getElem?_cons_zero]
   omega
  | false =>
   have hS3 := hide (h2 hc)
   have hjk := hide ((List.getElem?_eq_some_iff.1 hx0.out).1)
   have hrN := hide (show runB g j n = false from runB_stop (a := k + 1) (by rw [hsuc.out, hc]; simp) (by omega))
   clear h1 h2 hc
   gi_wp2
   exact ⟨_, results_tmp rfl _ _ _, told_no hrN.out ⟨_, hjk.out, hS3.out⟩⟩
 ·have hlt1 : ¬ (k : Int) < (n : Int) := by omega
  have hke : k = n := by omega
  subst hke
  have hJN := hide hJ'
  have hkN := hide hkp
  have hrN := hide hrun
  clear hJ' hkp h hJ hrun
  gi_wp2
  exact ⟨_, results_tmp rfl _ _ _, told_yes hrN.out hJN.out hkN.out⟩
end Go.Proofs.YtbbdhknagofghaaGreat
/-! Layer 7: each: the items that are of no other one. -/
namespace Go.Proofs.YtbbdhknagofghaaGreat
open Go.RowKit
attribute [local go_sem] Oper.semAt_some
set_option maxRecDepth 100000 in
set_option maxHeartbeats 2000000 in
theorem each_tells {l B : Nat} {xs : List It} {g : Nat → Bool} {J S : Nat → World → Prop} (hY : Yl l B xs g J S) (kind : Int) (n : Nat) (hn : n ≤ 9223372036854775807) (j : Nat) (tot len : Nat → Nat) (ht0 : tot 0 = 0) (hts : ∀ i, tot (i + 1) = tot i + (1 + len i)) (fid : Nat) (lb : Array Value)
  (eg : ∀ args w, (callFunc fid args).run Tryz.prog w = .ok (.enter fid args) w) (W : World)
  (h : ∀ i : Nat, i < n → xs[j + tot i]? = some ⟨kind, (i : Int), 0, zSt⟩)
  (hin : ∀ i : Nat, i < n → ∀ W1, J (j + tot i + 1) W1 → Kp exI W W1 → Calls Tryz.prog fid (#[.int .i64 (i : Int)] ++ lb) W1 (Told xs.length g J S W1 (j + tot i + 1) (len i))) (hJ : J j W) :
  Calls Tryz.prog 72 #[.int .u8 kind, .int .i64 (n : Int), .func (.yield l) #[] #[], .func (.func fid) #[] lb] W (Told xs.length g J S W j (tot n)) := by
 have hmono : ∀ k i, tot k ≤ tot (k + i) := fun k i => by
  induction i with
  | zero => exact Nat.le_refl _
  | succ i ih => rw [← Nat.add_assoc, hts]; omega
 replace hmono := hide hmono
 replace hts := hide hts
 refine (callsIn_wide (n := 3)).1 (callsIn_of_wp_marks Tryz.func72 rfl trivial ?_)
 simp only [Tryz.ntmps72, List.size_toArray, List.length_cons, List.length_nil, Nat.reduceAdd, Nat.reduceSub, Array.replicate_succ, Array.replicate_zero, List.push_toArray, List.append_toArray, List.nil_append, List.cons_append]
 replace hin := hide hin
 replace h := hide h
 gi_wp2
 refine wpIn_loop (fun a1 W' => ∃ (k : Nat) (u9 u12 u13 u14 u15 u16 u17 u18 u19 u20 u21 u22 u23 u24 u25 u26 : Value), k ≤ n ∧ runB g j (tot k) = true ∧ J (j + tot k) W' ∧ Kp exI W W' ∧
   a1 = { tmps := #[.int .u8 kind, .int .i64 (n : Int), .func (.yield l) #[] #[], .func (.func fid) #[] lb, undef, undef, undef, undef, .bool false, u9, .int .i64 (n : Int), .int .i64 (k : Int), u12, u13, u14, u15, u16, u17, u18, u19, u20, u21, u22, u23, u24, u25, u26], defers := [] })
   (muSlot 11 n) ⟨0, undef, undef, undef, undef, undef, undef, undef, undef, undef, undef, undef, undef, undef, undef, undef, undef, Nat.zero_le _, by rw [ht0]; exact runB_zero _ _, by rw [ht0]; exact hJ, Kp.refl _ _, rfl⟩ ?_
 rintro a1 W' ⟨k, u9, u12, u13, u14, u15, u16, u17, u18, u19, u20, u21, u22, u23, u24, u25, u26, hk, hrun, hJ', hkp, rfl⟩
 by_cases hlt : k < n
 ·have hlt1 : (k : Int) < (n : Int) := by omega
  obtain ⟨mm, fn, tmps, assign, body, hy, hR⟩ := hY _ _ _ W' (h.out k hlt) hJ' (itR_zero B kind (k : Int) 0 W')
  have hjk := hide ((List.getElem?_eq_some_iff.1 (h.out k hlt)).1)
  have hsuc := hide (show runB g j (tot (k + 1)) = (runB g j (tot k) && (g (j + tot k) && runB g (j + tot k + 1) (len k))) from by rw [hts.out, runB_add, runB_add, runB_one])
  have hle := hide (show tot (k + 1) ≤ tot n from by have := hmono.out (k + 1) (n - (k + 1)); rwa [show k + 1 + (n - (k + 1)) = n by omega] at this)
  have hrun' := hide hrun
  have htk := hide (hts.out k)
  clear h hJ hJ' ht0 hrun
  gi_wp2
  refine (round_wide0 hR).mono ?_
  rintro e W3 ⟨rfl, h1, h2⟩
  cases hc : g (j + tot k) with
  | true =>
   obtain ⟨hJ3, hk3⟩ := h1 hc
   have hkN := hide (hkp.trans hk3)
   have hcall := hide (hin.out k hlt W3 hJ3 hkN.out)
   replace hc := hide hc
   clear h1 h2 hJ3 hk3
   gi_wp2_with fail
   refine ⟨trivial, ?_⟩
   refine (callsIn_wide.2 hcall.out).mono ?_
   rintro e W4 ⟨rfl, h1, h2⟩
   cases hd : runB g (j + tot k + 1) (len k) with
   | true =>
    obtain ⟨hJ4, hk4⟩ := h1 hd
    have hJM := hide (show J (j + tot (k + 1)) W4 from by rw [htk.out, show j + (tot k + (1 + len k)) = j + tot k + 1 + len k by omega]; exact hJ4)
    have hkM := hide (hkN.out.trans hk4)
    have hrN := hide (show runB g j (tot (k + 1)) = true from by rw [hsuc.out, hrun'.out, hc.out, hd]; rfl)
    clear h1 h2 hJ4 hk4 hd
    gi_wp2
    refine ⟨⟨k + 1, _, _, _, _, _, _, _, _, _, _, _, _, _, _, _, _, by omega, hrN.out, hJM.out, hkM.out, rfl⟩, ?_⟩
    simp only [muSlot, List.getElem?_toArray, List.getElem?_cons_succ, List.getElem?_cons_zero]
    omega
   | false =>
    have hS4 := hide (h2 hd)
    have hrN := hide (show runB g j (tot n) = false from runB_stop (a := tot (k + 1)) (by rw [hsuc.out, hd]; simp) hle.out)
    clear h1 h2 hd
    gi_wp2
    exact ⟨_, results_tmp rfl _ _ _, told_no hrN.out hS4.out⟩
  | false =>
   have hS3 := hide (h2 hc)
   have hrN := hide (show runB g j (tot n) = false from runB_stop (a := tot (k + 1)) (by rw [hsuc.out, hc]; simp) hle.out)
   clear h1 h2 hc
   gi_wp2_with (refine ⟨(fun _ _ => trivial), ?_⟩)
   all_goals exact ⟨_, results_tmp rfl _ _ _, told_no hrN.out ⟨_, hjk.out, hS3.out⟩⟩
 ·have hlt1 : ¬ (k : Int) < (n : Int) := by omega
  have hke : k = n := by omega
  subst hke
  have hJN := hide hJ'
  have hkN := hide hkp
  have hrN := hide hrun
  clear hJ' hkp h hJ hrun ht0
  gi_wp2
  exact ⟨_, results_tmp rfl _ _ _, told_yes hrN.out hJN.out hkN.out⟩
end Go.Proofs.YtbbdhknagofghaaGreat
/-! Layer 7: stmts: the items of statements. -/
namespace Go.Proofs.YtbbdhknagofghaaGreat
open Go.RowKit
attribute [local go_sem] Oper.semAt_some
theorem heap_cells {W : World} {k : Nat} {cs : Array Value} {t : TypeId} (h : W.heap[k]? = some (.cells cs t)) : ∀ i, W.cell? ⟨k, i, none⟩ = cs[i]? := by
 intro i
 simp [World.cell?, h]
theorem items_at (a : Int) {L : List St} {k : Nat} (hk : k < L.length) : itemsL a L = itemsL a (L.take k) ++ (itemsS a L[k] ++ itemsL a (L.drop (k + 1))) := by
 simp only [itemsL_flat]
 rw [← List.flatMap_cons, ← List.flatMap_append, ← List.drop_eq_getElem_cons hk, List.take_append_drop]
theorem items_take (a : Int) {L : List St} {k : Nat} (hk : k < L.length) : (itemsL a (L.take (k + 1))).length = (itemsL a (L.take k)).length + (itemsS a L[k]).length := by
 rw [List.take_succ_eq_append_getElem hk]
 simp only [itemsL_flat, List.flatMap_append, List.length_append, List.flatMap_cons, List.flatMap_nil, List.append_nil]
theorem items_take_le (a : Int) (L : List St) (n : Nat) : (itemsL a (L.take n)).length ≤ (itemsL a L).length := by
 have e : itemsL a L = itemsL a (L.take n) ++ itemsL a (L.drop n) := by
  simp only [itemsL_flat]
  rw [← List.flatMap_append, List.take_append_drop]
 rw [e, List.length_append]
 omega
end Go.Proofs.YtbbdhknagofghaaGreat
/-! The document's numbers: compared. -/
namespace Go.Proofs.YtbbdhknagofghaaGreat
open Go.RowKit
attribute [local go_sem ↓] load_eq store_eq
/-- What holds when those operations have come up that are listed. -/
structure CmpL (x y : Value) (ra rb : Array Value) (n : Nat) (wb : World) (l0 l1 l2 l3 l4 l5 l6 l7 : Bool) (s5 s6 s8 s9 s10 s11 : Value) (g5 g6 : Nat) (w : World) : Prop where
 hb : Below wb.heap.size wb w
 i0 : l0 = true → s8 = x
 i1 : l1 = true → s9 = .agg ra
 i2 : l2 = true → s10 = y
 i3 : l3 = true → s11 = .agg rb
 i4 : l4 = true → s5 = .pointer (some ⟨g5, 0, none⟩) ∧ wb.heap.size ≤ g5 ∧ w.heap[g5]? = some (.cells (if l6 then ra else Tryz.zeroCells203) 203 (0, 0))
 i5 : l5 = true → s6 = .pointer (some ⟨g6, 0, none⟩) ∧ wb.heap.size ≤ g6 ∧ w.heap[g6]? = some (.cells (if l7 then rb else Tryz.zeroCells203) 203 (0, 0))
 i6 : l4 = true → l5 = true → g5 ≠ g6
 i7 : l6 = true → l4 = true
 i8 : l7 = true → l5 = true
theorem heap_lt {w : World} {g : Nat} {o : Obj} (h : w.heap[g]? = some o) : g < w.heap.size := (Array.getElem?_eq_some_iff.1 h).1
theorem CmpL.mono {x y : Value} {ra rb : Array Value} {n : Nat} {wb w w' : World} {l0 l1 l2 l3 l4 l5 l6 l7 : Bool} {s5 s6 s8 s9 s10 s11 : Value} {g5 g6 : Nat} (h : CmpL x y ra rb n wb l0 l1 l2 l3 l4 l5 l6 l7 s5 s6 s8 s9 s10 s11 g5 g6 w) (hb : Below w.heap.size w w') : CmpL x y ra rb n wb l0 l1 l2 l3 l4 l5 l6 l7 s5 s6 s8 s9 s10 s11 g5 g6 w' :=
 { h with
  hb := h.hb.trans (hb.mono h.hb.size)
  i4 := fun q => ⟨(h.i4 q).1, (h.i4 q).2.1, (hb.block _ (heap_lt (h.i4 q).2.2)).trans (h.i4 q).2.2⟩
  i5 := fun q => ⟨(h.i5 q).1, (h.i5 q).2.1, (hb.block _ (heap_lt (h.i5 q).2.2)).trans (h.i5 q).2.2⟩ }
end Go.Proofs.YtbbdhknagofghaaGreat
/-! Printed by gen_rt.py. The document's layer 8: Of. -/
namespace Go.Proofs.YtbbdhknagofghaaGreat
open Go.RowKit
theorem held8 {n : Nat} {wz W : World} (h : Below n wz W) : Below n wz W ∧ ∀ b o, b < n → W.cell? ⟨b, o, none⟩ = wz.cell? ⟨b, o, none⟩ := ⟨h, (bcell' h).1⟩
end Go.Proofs.YtbbdhknagofghaaGreat

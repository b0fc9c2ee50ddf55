import Derived.RangeFuncNested
import Derived.RangeFuncBound
import Derived.RangeFuncCalls
import Derived.RangeFuncLeaves
import Derived.LoopIn
set_option linter.all false
/-! A range over a function whose rounds all go on, where the round may read what it is handed ('R'): own law over the kit's 'wpIn_rangeFunc'. -/
namespace Go.Proofs.YtcgmkjpgaigmfaaGreat
open Go.RowKit
/-- One call of yield: it answers true. -/
def Yld (P : Program) (l : Nat) (v : Value) (W : World) (R : World → Prop) : Prop :=
 ∃ m, YieldAt Fence.wide m P l #[v] W fun e W' => e = .returned (.bool true) ∧ R W'
theorem round_wide {m n l : Nat} {l' : Nat} {P : Program} {fn : FuncId} {tmps : Array Value} {assign body : Code} {W : World} {R : Ending → World → Prop} (h : RoundIn Fence.wide m P l fn tmps assign body W R) :
  RoundIn (Fence.wide.inRound l') n P l fn tmps assign body W R := ⟨trivial, fun c cs _ => h.2 c cs (room_wide _)⟩
theorem round_wide0 {m n l : Nat} {P : Program} {fn : FuncId} {tmps : Array Value} {assign body : Code} {W : World} {R : Ending → World → Prop} (h : RoundIn Fence.wide m P l fn tmps assign body W R) :
  RoundIn Fence.wide n P l fn tmps assign body W R := ⟨trivial, fun c cs _ => h.2 c cs (room_wide _)⟩
/-- What a round keeps: whatever is no cells, and the cells of all types but those of ex. -/
structure Kp (ex : TypeId → Bool) (W W' : World) : Prop where
 os : W'.os = W.os
 tape : W'.tape = W.tape
 output : W'.output = W.output
 size : W.heap.size ≤ W'.heap.size
 same : ∀ (k : Nat) (o : Obj), W.heap[k]? = some o → (∀ cs t fr, o = .cells cs t fr → ex t = false) → W'.heap[k]? = some o
section
variable {ex : TypeId → Bool} {A B C W W' : World}
theorem Kp.refl (ex : TypeId → Bool) (W : World) : Kp ex W W := ⟨rfl, rfl, rfl, Nat.le_refl _, fun _ _ h _ => h⟩
theorem Kp.trans (h : Kp ex A B) (k : Kp ex B C) : Kp ex A C :=
 ⟨k.os.trans h.os, k.tape.trans h.tape, k.output.trans h.output, Nat.le_trans h.size k.size, fun i o hi ho => k.same i o (h.same i o hi ho) ho⟩
theorem Kp.of_below (ex : TypeId → Bool) (h : Below W.heap.size W W') : Kp ex W W' :=
 ⟨h.os, h.tape, h.output, h.size, fun k o hk _ => (h.block k (Array.getElem?_eq_some_iff.1 hk).1).trans hk⟩
theorem Kp.of_grown {g : Nat} {cs : Array Value} {t : TypeId} {fr : Nat × Nat} (hg : W.grownBy W' (some g)) (hb : W.heap[g]? = some (.cells cs t fr)) (hex : ex t = true) : Kp ex W W' :=
 ⟨hg.os, hg.tape, hg.output, hg.size, fun k o hk ho => by
  by_cases e : k = g
  ·subst e
   rw [hb] at hk; injection hk with hk
   rw [ho _ _ _ hk.symm] at hex; cases hex
  ·exact (hg.block k (Array.getElem?_eq_some_iff.1 hk).1 (fun e' => e (by injection e'))).trans hk⟩
theorem Kp.other (h : Kp ex W W') {k : Nat} {o : Obj} (hk : W.heap[k]? = some o) (ho : o.isCells = false) : W'.heap[k]? = some o :=
 h.same k o hk (fun cs t fr e => by subst e; cases ho)
theorem Kp.box (h : Kp ex W W') {k : Nat} {t : TypeId} {v : Value} (hk : Boxed W k t v) (ht : ex t = false) : Boxed W' k t v :=
 h.same k _ hk (fun cs t' fr e => by cases e; exact ht)
theorem Kp.own (h : Kp ex W W') {base : Nat} {e : TypeId} {size n : Nat} {v : Value} {xs : List Value} (ho : W.ownsRow base e size v n xs) (ht : ex e = false) : W'.ownsRow base e size v n xs := by
 refine ⟨ho.1, ?_⟩
 rcases ho.2 with h2 | ⟨g, cap, cur, hv, hg, hh, r⟩
 ·exact .inl h2
 ·exact .inr ⟨g, cap, cur, hv, hg, h.same _ _ hh (fun cs t' fr e => by cases e; exact ht), r⟩
theorem own_rowFrom {β : Type} (base : Nat) (e : TypeId) (size : Nat) (v : Value) (n : Nat) (xs : List Value) : Own (fun (_ : β) W => W.ownsRow base e size v n xs) := fun _ X Y row hs hg hr => by
 refine ⟨hs.1, ?_⟩
 rcases hs.2 with h2 | ⟨g, cap, cur, hv, hb, hh, r⟩
 ·exact .inl h2
 ·exact .inr ⟨g, cap, cur, hv, hb, (grownBy_keeps_cells hg hr hh rfl).trans hh, r⟩
end
/-- An iterator: what it hands over, one after another, reads as the xs; rounds keep all but the cells of ex's types. -/
def Gives {α : Type} (P : Program) (gf : Nat) (lb : Array Value) (R : α → Value → World → Prop) (ex : TypeId → Bool) (xs : List α) (w : World) : Prop :=
 ∀ (l : Nat) (J : Nat → World → Prop) (W : World), Below w.heap.size w W → OwnFrom W.heap.size J →
  (∀ k x v W1, xs[k]? = some x → J k W1 → R x v W1 → Yld P l v W1 fun W' => J (k + 1) W' ∧ Kp ex W1 W') →
  J 0 W → Calls P gf (#[.func (.yield l) #[] #[]] ++ lb) W fun e W' => (∃ v, e = .returned v) ∧ J xs.length W' ∧ Kp ex W W'
theorem Gives.later {α : Type} {P : Program} {gf : Nat} {lb : Array Value} {R : α → Value → World → Prop} {ex : TypeId → Bool} {xs : List α} {w w' : World} (h : Gives P gf lb R ex xs w) (hb : Below w.heap.size w w') : Gives P gf lb R ex xs w' :=
 fun l J W hW hJ hY h0 => h l J W (hb.trans (hW.mono hb.size)) hJ hY h0
/-- The marks that ranges over functions leave on an activation. -/
def mark (D : Nat) : Deferred := { target := .collected D, args := #[] }
def Marked (B : Nat) (Ds : List Nat) (W : World) : Prop := Ds.Nodup ∧ ∀ D ∈ Ds, B ≤ D ∧ W.heap[D]? = some (.deferred (some []))
theorem Marked.nil (B : Nat) (W : World) : Marked B [] W := ⟨List.nodup_nil, fun _ h => by simp at h⟩
theorem Marked.kp {ex : TypeId → Bool} {B : Nat} {Ds : List Nat} {W W' : World} (h : Marked B Ds W) (hk : Kp ex W W') : Marked B Ds W' := ⟨h.1, fun D hD => ⟨(h.2 D hD).1, hk.other (h.2 D hD).2 rfl⟩⟩
theorem Marked.cons {B D : Nat} {Ds : List Nat} {W W' : World} (h : Marked B Ds W) (hB : B ≤ W.heap.size) (hD : W.heap.size ≤ D) (hW : W'.heap[D]? = some (.deferred (some []))) (hk : ∀ E ∈ Ds, W'.heap[E]? = some (.deferred (some []))) : Marked B (D :: Ds) W' :=
 ⟨List.nodup_cons.2 ⟨fun hm => by have := (Array.getElem?_eq_some_iff.1 (h.2 D hm).2).1; omega, h.1⟩, fun E hE => by
  rcases List.mem_cons.1 hE with rfl | hE
  ·exact ⟨by omega, hW⟩
  ·exact ⟨(h.2 E hE).1, hk E hE⟩⟩
/-- At the return: the marks are come to, one after another. -/
theorem leaves_marks {n B : Nat} {P : Program} {fn : Func} {tmps : Array Value} {R : Ending → World → Prop} (J : World → Prop) (hJ : OwnFrom B (fun (_ : Unit) W => J W))
  (hend : ∀ W, J W → LeavesIn Fence.wide n P fn tmps R [] .returning W) : ∀ (Ds : List Nat) (W : World), Marked B Ds W → J W → LeavesInM Fence.wide n P fn tmps R (Ds.map mark) .returning W
 | [], W, _, h => hend W h
 | D :: Ds, W, hm, h => by
  have hD := hm.2 D List.mem_cons_self
  refine ⟨by simp, .inl ⟨D, _, rfl, run_takeDeferred hD.2, ?_⟩⟩
  have hn := List.nodup_cons.1 hm.1
  refine leaves_marks J hJ hend Ds _ ⟨hn.2, fun E hE => ⟨(hm.2 E (List.mem_cons_of_mem _ hE)).1, ?_⟩⟩ (hJ.putObj (s := ()) _ h hD.1 hD.2 rfl)
  rw [World.putObj_heap_other (show E ≠ D from fun e => hn.1 (by rw [← e]; exact hE))]
  exact (hm.2 E (List.mem_cons_of_mem _ hE)).2
theorem kp_putObj {ex : TypeId → Bool} {W W' : World} {l : Nat} {o o' : Obj} (h : Kp ex (W.putObj l o) W') (hl : W.heap[l]? = some o') :
  Kp ex W (W'.putObj l o') := by
 refine ⟨h.os, h.tape, h.output, by simpa using h.size, fun k x hk hx => ?_⟩
 by_cases e : k = l
 ·subst e
  rw [hl] at hk; injection hk with hk; subst hk
  refine World.putObj_heap_same ?_
  have := h.size; simp at this
  have := (Array.getElem?_eq_some_iff.1 hl).1
  omega
 ·rw [World.putObj_heap_other e]
  exact h.same k x (by rw [World.putObj_heap_other e]; exact hk) hx
/-- The law: an outermost loop over an iterator that 'Gives'. -/
theorem wp_range {α : Type} {n : Nat} {P : Program} {g : Operand} {ps : Array Tmp} {assign body : Code} {Q : Exit → Act → World → Prop} {a : Act} {w w0 : World} {gf : Nat} {lb : Array Value}
  {R : α → Value → World → Prop} {ex : TypeId → Bool} {xs : List α}
  (hg : a.eval g = .func (.func gf) #[] lb) (eg : ∀ args w, (callFunc gf args).run P w = .ok (.enter gf args) w) (hseq : Gives P gf lb R ex xs w0) (hb0 : Below w0.heap.size w0 w) (hps : ps.size = 1)
  (hR : ∀ x v, Own (fun (_ : Unit) W => R x v W)) (I : Nat → World → Prop) (hI : OwnFrom w.heap.size I) (h0 : I 0 w) (a₁ : Value → Act)
  (hassign : ∀ (l : Nat) (v : Value) (W : World) (K : Act → World → Prop), K (a₁ v) W →
   assign.wpIn (Fence.wide.inRound l) n P (Exit.then K (fun _ _ _ => False)) { tmps := (ps.zip #[v]).foldl (fun t (p, v) => t.setIfInBounds p v) a.tmps, defers := [] } W)
  (hbody : ∀ (l k : Nat) (x : α) (v : Value) (W : World), w.heap.size ≤ l → xs[k]? = some x → I k W → R x v W →
   body.wpIn (Fence.wide.inRound l) n P (fun e _ W' => e = .normal ∧ Kp ex W W' ∧ I (k + 1) W') (a₁ v) W)
  (hdone : ∀ (D : Nat) (W : World), D = w.heap.size → I xs.length W → W.heap[D]? = some (.deferred (some [])) → Kp ex w W → Q .normal { a with defers := mark D :: a.defers } W) :
  (Code.rangeFunc g ps assign body).wpIn Fence.wide n P Q a w := by
 refine wpIn_rangeFunc ?_
 intro fn hfn
 obtain ⟨rec, hrec⟩ : ∃ rec : LoopState → Loop, rec = fun st => { state := st, pending := none, fn, tmps := a.tmps, params := ps, assign, body, defers := w.heap.size } := ⟨_, rfl⟩
 have hps' : ∀ st, (rec st).params = ps := fun st => by rw [hrec]
 obtain ⟨W1, hW1⟩ : ∃ W1, (w.alloc (.deferred (some []))).alloc (.loop (rec .ready)) = W1 := ⟨_, rfl⟩
 have bW1 : Below w.heap.size w W1 := by rw [← hW1]; exact ((Below.refl _ w).alloc (Nat.le_refl _) _).alloc (by simp) _
 have sW1 : W1.heap.size = w.heap.size + 2 := by rw [← hW1]; simp
 have hL1 : W1.heap[w.heap.size + 1]? = some (.loop (rec .ready)) := by
  rw [← hW1]; have := World.alloc_heap_new (w.alloc (.deferred (some []))) (.loop (rec .ready)); rwa [World.size_alloc] at this
 have hK1 : W1.heap[w.heap.size]? = some (.deferred (some [])) := by
  rw [← hW1]; exact (Below.heap_alloc _ _ _ (by simp)).trans (World.alloc_heap_new w _)
 have hI1 : I 0 W1 := by rw [← hW1]; exact hI.alloc _ (hI.alloc _ h0)
 refine ⟨w.heap.size + 1, [mark w.heap.size], W1, { target := .fn (.func gf) lb, args := #[.func (.yield (w.heap.size + 1)) #[] #[]] }, W1, gf, #[.func (.yield (w.heap.size + 1)) #[] #[]] ++ lb, W1, ?_, ?_, ?_, ?_, fun h => absurd h (by simp [Fence.wide]), ?_⟩
 ·rw [← hW1, hrec]; exact run_enterLoop_outer _ _ _ _ _
 ·simp only [resolve, hg]
  simp [go_sem]
 ·intro f' _; exact trivial
 ·simp [invoke, go_sem, eg]
 ·refine callsIn_wide.2 ((hseq (w.heap.size + 1) (fun k W => I k W ∧ W.heap[w.heap.size + 1]? = some (.loop (rec .ready)) ∧ W.heap[w.heap.size]? = some (.deferred (some [])) ∧ Kp ex w W) W1 (hb0.trans (bW1.mono hb0.size)) ?_ ?_
   ⟨hI1, hL1, hK1, Kp.of_below ex bW1⟩).mono ?_)
  ·intro s A B row hs hg' hr
   obtain ⟨i1, i2, i3, i4⟩ := hs
   have far : ∀ k, k < W1.heap.size → B.heap[k]? = A.heap[k]? ∨ A.heap[k]? = none := fun k hk => by
    by_cases hlt : k < A.heap.size
    ·exact .inl (hg'.block k hlt (fun e => by have := (hr _ e.symm).1; omega))
    ·exact .inr (Array.getElem?_eq_none (by omega))
   refine ⟨hI s A B row i1 hg' (fun r e => ⟨by have := (hr r e).1; omega, (hr r e).2⟩), ?_, ?_, ?_⟩
   ·rcases far (w.heap.size + 1) (by omega) with h | h
    ·rw [h]; exact i2
    ·rw [i2] at h; cases h
   ·rcases far w.heap.size (by omega) with h | h
    ·rw [h]; exact i3
    ·rw [i3] at h; cases h
   ·refine ⟨hg'.os.trans i4.os, hg'.tape.trans i4.tape, hg'.output.trans i4.output, Nat.le_trans i4.size hg'.size, fun k o hk ho => ?_⟩
    have hkw := (Array.getElem?_eq_some_iff.1 hk).1
    have hA := i4.same k o hk ho
    rcases far k (by omega) with h | h
    ·rw [h]; exact hA
    ·rw [hA] at h; cases h
  ·rintro k x v W hx ⟨hi, hl, hk, hkp⟩ hr
   have hlt : w.heap.size + 1 < W.heap.size := (Array.getElem?_eq_some_iff.1 hl).1
   have hy := run_yield (P := P) (args := #[v]) hl (by rw [hps', hps]; rfl)
   refine ⟨n, (rec .ready).fn, _, (rec .ready).assign, (rec .ready).body, hy, ?_⟩
   have e1 : (rec .ready).fn = fn := by rw [hrec]
   have e2 : (rec .ready).assign = assign := by rw [hrec]
   have e3 : (rec .ready).body = body := by rw [hrec]
   have e4 : (rec .ready).tmps = a.tmps := by rw [hrec]
   rw [e1, e2, e3, e4, hps']
   refine roundIn_of_wpIn hfn (hassign _ v W _ ?_)
   have hst : (rec .ready).state = .ready := by rw [hrec]
   refine ⟨_, run_beginRound hl hst, ?_⟩
   have eb : ({ rec .ready with state := .busy } : Loop) = rec .busy := by rw [hrec]
   rw [eb]
   have hl2 : (W.putObj (w.heap.size + 1) (.loop (rec .busy))).heap[w.heap.size + 1]? = some (.loop (rec .busy)) := World.putObj_heap_same hlt
   refine wpIn_mono (hbody _ k x v _ (by omega) hx (hI.putObj _ hi (by omega) hl rfl) ((hR x v).putObj (s := ()) _ hr hl rfl)) ?_
   rintro e a3 W3 ⟨rfl, hk3, hi3⟩
   have hl3 := hk3.other hl2 rfl
   have hr3 := run_endRound (P := P) none hl3
   have ec : ({ rec .busy with state := if (none : Option Code).isNone then .ready else .done, pending := none } : Loop) = rec .ready := by rw [hrec]; rfl
   rw [ec] at hr3
   have kp3 := kp_putObj hk3 hl
   have hlt3 : w.heap.size + 1 < W3.heap.size := (Array.getElem?_eq_some_iff.1 hl3).1
   exact ⟨_, _, hr3, rfl, ⟨hI.putObj _ hi3 (by omega) hl3 rfl, World.putObj_heap_same hlt3, kp3.other hk rfl, hkp.trans kp3⟩, kp3⟩
  ·rintro e W2 ⟨⟨v, rfl⟩, ⟨hi, hl, hk, hkp⟩, _⟩
   have hst : (rec .ready).state ≠ .busy := by rw [hrec]; simp
   have hr2 := run_endLoop (P := P) hl hst
   have hp : (rec .ready).pending = none := by rw [hrec]
   rw [hp] at hr2
   refine ⟨none, _, hr2, hdone _ _ rfl (hI.putObj _ hi (by omega) hl rfl) ((World.putObj_heap_other (by omega)).trans hk) ?_⟩
   refine ⟨hkp.os, hkp.tape, hkp.output, by simpa using hkp.size, fun k o hk' ho => ?_⟩
   have := (Array.getElem?_eq_some_iff.1 hk').1
   rw [World.putObj_heap_other (by omega)]
   exact hkp.same k o hk' ho
end Go.Proofs.YtcgmkjpgaigmfaaGreat
/-! A range over a function whose rounds may stop it by a return: the law, over the kit's 'wpIn_rangeFunc'. -/
namespace Go.Proofs.YtcgmkjpgaigmfaaGreat
open Go.RowKit
/-- One call of yield: it tells to go on (c), and R; or not to, and S. -/
def YldS (P : Program) (l : Nat) (v : Value) (W : World) (c : Bool) (R S : World → Prop) : Prop :=
 ∃ m, YieldAt Fence.wide m P l #[v] W fun e W' => e = .returned (.bool c) ∧ (c = true → R W') ∧ (c = false → S W')
/-- An iterator that stops where it is told to. -/
def GivesS {α : Type} (P : Program) (gf : Nat) (lb : Array Value) (R : α → Value → World → Prop) (ex : TypeId → Bool) (xs : List α) (go : α → Bool) (K : World → Prop) (w : World) : Prop :=
 ∀ (l : Nat) (J S : Nat → World → Prop) (W : World), Below w.heap.size w W → OwnFrom W.heap.size J → OwnFrom W.heap.size S → (∀ k W', J k W' → K W') →
  (∀ k x v W1, xs[k]? = some x → J k W1 → R x v W1 → YldS P l v W1 (go x) (fun W' => J (k + 1) W' ∧ Kp ex W1 W') (S k)) →
  J 0 W → Calls P gf (#[.func (.yield l) #[] #[]] ++ lb) W fun e W' => (∃ v, e = .returned v) ∧ ((J xs.length W' ∧ Kp ex W W') ∨ ∃ k, k < xs.length ∧ S k W')
/-- The law: an outermost loop over an iterator that 'GivesS'. -/
theorem wp_rangeS {α : Type} {n : Nat} {P : Program} {g : Operand} {ps : Array Tmp} {assign body : Code} {Q : Exit → Act → World → Prop} {a : Act} {w w0 : World} {gf : Nat} {lb : Array Value}
  {R : α → Value → World → Prop} {ex : TypeId → Bool} {xs : List α}
  (hg : a.eval g = .func (.func gf) #[] lb) (eg : ∀ args w, (callFunc gf args).run P w = .ok (.enter gf args) w) {go : α → Bool} {K : World → Prop} (hseq : GivesS P gf lb R ex xs go K w0) (hb0 : Below w0.heap.size w0 w) (hps : ps.size = 1)
  (hR : ∀ x v, OwnFrom w.heap.size (fun (_ : Unit) W => R x v W)) (I Ix : Nat → World → Prop) (hI : OwnFrom w.heap.size I) (hIx : OwnFrom w.heap.size Ix) (hIK : ∀ k W', I k W' → K W') (h0 : I 0 w) (a₁ : Value → World → Act) (W₁ : Value → World → World) (hW₁ : ∀ v W, Below W.heap.size W (W₁ v W))
  (hassign : ∀ (l : Nat) (x : α) (v : Value) (W : World) (K : Act → World → Prop), R x v W → K (a₁ v W) (W₁ v W) →
   assign.wpIn (Fence.wide.inRound l) n P (Exit.then K (fun _ _ _ => False)) { tmps := (ps.zip #[v]).foldl (fun t (p, v) => t.setIfInBounds p v) a.tmps, defers := [] } W)
  (hbody : ∀ (l k : Nat) (x : α) (v : Value) (W0 W : World), w.heap.size ≤ l → xs[k]? = some x → R x v W0 → (∀ (k : Nat) (o : Obj), (W₁ v W0).heap[k]? = some o → o.isCells = true → W.heap[k]? = some o) → I k W → R x v W →
   body.wpIn (Fence.wide.inRound l) n P (fun e _ W' => (e = .normal ∧ go x = true ∧ Kp ex W W' ∧ I (k + 1) W') ∨ (e = .ret ∧ go x = false ∧ Kp ex W W' ∧ Ix k W')) (a₁ v W0) W)
  (hdone : ∀ (D : Nat) (W : World), D = w.heap.size → I xs.length W → W.heap[D]? = some (.deferred (some [])) → Kp ex w W → Q .normal { a with defers := mark D :: a.defers } W)
  (hstop : ∀ (D k : Nat) (W : World), D = w.heap.size → k < xs.length → Ix k W → W.heap[D]? = some (.deferred (some [])) → Code.ret.wpIn Fence.wide n P Q { a with defers := mark D :: a.defers } W) :
  (Code.rangeFunc g ps assign body).wpIn Fence.wide n P Q a w := by
 refine wpIn_rangeFunc ?_
 intro fn hfn
 obtain ⟨rec, hrec⟩ : ∃ rec : LoopState → Option Code → Loop, rec = fun st pe => { state := st, pending := pe, fn, tmps := a.tmps, params := ps, assign, body, defers := w.heap.size } := ⟨_, rfl⟩
 have hps' : ∀ st pe, (rec st pe).params = ps := fun st pe => by rw [hrec]
 obtain ⟨W1, hW1⟩ : ∃ W1, (w.alloc (.deferred (some []))).alloc (.loop (rec .ready none)) = W1 := ⟨_, rfl⟩
 have bW1 : Below w.heap.size w W1 := by rw [← hW1]; exact ((Below.refl _ w).alloc (Nat.le_refl _) _).alloc (by simp) _
 have sW1 : W1.heap.size = w.heap.size + 2 := by rw [← hW1]; simp
 have hL1 : W1.heap[w.heap.size + 1]? = some (.loop (rec .ready none)) := by
  rw [← hW1]; have := World.alloc_heap_new (w.alloc (.deferred (some []))) (.loop (rec .ready none)); rwa [World.size_alloc] at this
 have hK1 : W1.heap[w.heap.size]? = some (.deferred (some [])) := by
  rw [← hW1]; exact (Below.heap_alloc _ _ _ (by simp)).trans (World.alloc_heap_new w _)
 have hI1 : I 0 W1 := by rw [← hW1]; exact hI.alloc _ (hI.alloc _ h0)
 refine ⟨w.heap.size + 1, [mark w.heap.size], W1, { target := .fn (.func gf) lb, args := #[.func (.yield (w.heap.size + 1)) #[] #[]] }, W1, gf, #[.func (.yield (w.heap.size + 1)) #[] #[]] ++ lb, W1, ?_, ?_, ?_, ?_, fun h => absurd h (by simp [Fence.wide]), ?_⟩
 ·rw [← hW1, hrec]; exact run_enterLoop_outer _ _ _ _ _
 ·simp only [resolve, hg]
  simp [go_sem]
 ·intro f' _; exact trivial
 ·simp [invoke, go_sem, eg]
 ·have own3 : ∀ (st : LoopState) (pe : Option Code) (X : Nat → World → Prop), OwnFrom w.heap.size X → OwnFrom W1.heap.size (fun k W => X k W ∧ W.heap[w.heap.size + 1]? = some (.loop (rec st pe)) ∧ W.heap[w.heap.size]? = some (.deferred (some [])) ∧ Kp ex w W) := by
   intro st pe X hX s A B row hs hg' hr
   obtain ⟨i1, i2, i3, i4⟩ := hs
   have far : ∀ k, k < W1.heap.size → B.heap[k]? = A.heap[k]? ∨ A.heap[k]? = none := fun k hk => by
    by_cases hlt : k < A.heap.size
    ·exact .inl (hg'.block k hlt (fun e => by have := (hr _ e.symm).1; omega))
    ·exact .inr (Array.getElem?_eq_none (by omega))
   refine ⟨hX s A B row i1 hg' (fun r e => ⟨by have := (hr r e).1; omega, (hr r e).2⟩), ?_, ?_, ?_⟩
   ·rcases far (w.heap.size + 1) (by omega) with h | h
    ·rw [h]; exact i2
    ·rw [i2] at h; cases h
   ·rcases far w.heap.size (by omega) with h | h
    ·rw [h]; exact i3
    ·rw [i3] at h; cases h
   ·refine ⟨hg'.os.trans i4.os, hg'.tape.trans i4.tape, hg'.output.trans i4.output, Nat.le_trans i4.size hg'.size, fun k o hk ho => ?_⟩
    have hkw := (Array.getElem?_eq_some_iff.1 hk).1
    have hA := i4.same k o hk ho
    rcases far k (by omega) with h | h
    ·rw [h]; exact hA
    ·rw [hA] at h; cases h
  have own2 : OwnFrom W1.heap.size (fun k W => Ix k W ∧ W.heap[w.heap.size + 1]? = some (.loop (rec .done (some .ret))) ∧ W.heap[w.heap.size]? = some (.deferred (some []))) := by
   intro s A B row hs hg' hr
   obtain ⟨i1, i2, i3⟩ := hs
   have far : ∀ k, k < W1.heap.size → B.heap[k]? = A.heap[k]? ∨ A.heap[k]? = none := fun k hk => by
    by_cases hlt : k < A.heap.size
    ·exact .inl (hg'.block k hlt (fun e => by have := (hr _ e.symm).1; omega))
    ·exact .inr (Array.getElem?_eq_none (by omega))
   refine ⟨hIx s A B row i1 hg' (fun r e => ⟨by have := (hr r e).1; omega, (hr r e).2⟩), ?_, ?_⟩
   ·rcases far (w.heap.size + 1) (by omega) with h | h
    ·rw [h]; exact i2
    ·rw [i2] at h; cases h
   ·rcases far w.heap.size (by omega) with h | h
    ·rw [h]; exact i3
    ·rw [i3] at h; cases h
  refine callsIn_wide.2 ((hseq (w.heap.size + 1) (fun k W => I k W ∧ W.heap[w.heap.size + 1]? = some (.loop (rec .ready none)) ∧ W.heap[w.heap.size]? = some (.deferred (some [])) ∧ Kp ex w W)
   (fun k W => Ix k W ∧ W.heap[w.heap.size + 1]? = some (.loop (rec .done (some .ret))) ∧ W.heap[w.heap.size]? = some (.deferred (some []))) W1 (hb0.trans (bW1.mono hb0.size)) (own3 _ _ _ hI) own2 (fun k W' h => hIK k W' h.1) ?_
   ⟨hI1, hL1, hK1, Kp.of_below ex bW1⟩).mono ?_)
  ·rintro k x v W hx ⟨hi, hl, hk, hkp⟩ hr
   have hlt : w.heap.size + 1 < W.heap.size := (Array.getElem?_eq_some_iff.1 hl).1
   have hy := run_yield (P := P) (args := #[v]) hl (by rw [hps', hps]; rfl)
   refine ⟨n, (rec .ready none).fn, _, (rec .ready none).assign, (rec .ready none).body, hy, ?_⟩
   have e1 : (rec .ready none).fn = fn := by rw [hrec]
   have e2 : (rec .ready none).assign = assign := by rw [hrec]
   have e3 : (rec .ready none).body = body := by rw [hrec]
   have e4 : (rec .ready none).tmps = a.tmps := by rw [hrec]
   rw [e1, e2, e3, e4, hps']
   refine roundIn_of_wpIn hfn (hassign _ x v W _ hr ?_)
   have hst : (rec .ready none).state = .ready := by rw [hrec]
   have bX := hW₁ v W
   obtain ⟨X, hX⟩ : ∃ X, W₁ v W = X := ⟨_, rfl⟩
   have hkeep : ∀ (k : Nat) (o : Obj), (W₁ v W).heap[k]? = some o → o.isCells = true → (X.putObj (w.heap.size + 1) (.loop (rec .busy none))).heap[k]? = some o := fun k o hko hoc => by
    rw [hX] at hko
    rw [World.putObj_heap_other (show k ≠ w.heap.size + 1 from fun e => ?_)]
    ·exact hko
    ·subst e
     have := (hX ▸ bX).block (w.heap.size + 1) hlt
     rw [this, hl] at hko
     injection hko with hko
     subst hko
     cases hoc
   rw [hX] at bX ⊢
   have hlX : X.heap[w.heap.size + 1]? = some (.loop (rec .ready none)) := (bX.block _ hlt).trans hl
   have hkX : X.heap[w.heap.size]? = some (.deferred (some [])) := (bX.block _ (by omega)).trans hk
   have hgX : W.grownBy X none := ⟨bX.os, bX.tape, bX.output, bX.size, fun i hi _ => bX.block i hi⟩
   have hiX : I k X := hI k W X none hi hgX (fun r e => by cases e)
   have hrX : R x v X := hR x v () W X none hr hgX (fun r e => by cases e)
   have hltX : w.heap.size + 1 < X.heap.size := (Array.getElem?_eq_some_iff.1 hlX).1
   refine ⟨_, run_beginRound hlX hst, ?_⟩
   have eb : ({ rec .ready none with state := .busy } : Loop) = rec .busy none := by rw [hrec]
   rw [eb]
   have hl2 : (X.putObj (w.heap.size + 1) (.loop (rec .busy none))).heap[w.heap.size + 1]? = some (.loop (rec .busy none)) := World.putObj_heap_same hltX
   refine wpIn_mono (hbody _ k x v W _ (by omega) hx hr hkeep (hI.putObj _ hiX (by omega) hlX rfl) ((hR x v).putObj (s := ()) _ hrX (by omega) hlX rfl)) ?_
   rintro e a3 W3 (⟨rfl, hgo, hk3, hi3⟩ | ⟨rfl, hgo, hk3, hi3⟩)
   ·have hl3 := hk3.other hl2 rfl
    have hr3 := run_endRound (P := P) none hl3
    have ec : ({ rec .busy none with state := if (none : Option Code).isNone then .ready else .done, pending := none } : Loop) = rec .ready none := by rw [hrec]; rfl
    rw [ec] at hr3
    have kp3 := kp_putObj hk3 hlX
    have kp4 := (Kp.of_below ex bX).trans kp3
    have hlt3 : w.heap.size + 1 < W3.heap.size := (Array.getElem?_eq_some_iff.1 hl3).1
    exact ⟨_, _, hr3, by rw [hgo]; rfl, fun _ => ⟨⟨hI.putObj _ hi3 (by omega) hl3 rfl, World.putObj_heap_same hlt3, kp3.other hkX rfl, hkp.trans kp4⟩, kp4⟩, fun h => by rw [hgo] at h; cases h⟩
   ·have hl3 := hk3.other hl2 rfl
    have hr3 := run_endRound (P := P) (some .ret) hl3
    have ec : ({ rec .busy none with state := if (some Code.ret).isNone then .ready else .done, pending := some .ret } : Loop) = rec .done (some .ret) := by rw [hrec]; rfl
    rw [ec] at hr3
    have hlt3 : w.heap.size + 1 < W3.heap.size := (Array.getElem?_eq_some_iff.1 hl3).1
    exact ⟨_, _, hr3, by rw [hgo]; rfl, fun h => (by rw [hgo] at h; cases h), fun _ => ⟨hIx.putObj _ hi3 (by omega) hl3 rfl, World.putObj_heap_same hlt3, (World.putObj_heap_other (by omega)).trans (hk3.other ((World.putObj_heap_other (by omega)).trans hkX) rfl)⟩⟩
  ·rintro e W2 ⟨⟨v, rfl⟩, hJS⟩
   have kpo : ∀ (pe : Option Code) (st : LoopState) (o : Obj), W2.heap[w.heap.size + 1]? = some (.loop (rec st pe)) → Kp ex w W2 → Kp ex w (W2.putObj (w.heap.size + 1) o) := fun pe st o hl hkp => by
    refine ⟨hkp.os, hkp.tape, hkp.output, by simpa using hkp.size, fun k o hk' ho => ?_⟩
    have := (Array.getElem?_eq_some_iff.1 hk').1
    rw [World.putObj_heap_other (by omega)]
    exact hkp.same k o hk' ho
   rcases hJS with ⟨⟨hi, hl, hk, hkp⟩, _⟩ | ⟨k, hkl, hi, hl, hk⟩
   ·have hst : (rec .ready none).state ≠ .busy := by rw [hrec]; simp
    have hr2 := run_endLoop (P := P) hl hst
    have hp : (rec .ready none).pending = none := by rw [hrec]
    rw [hp] at hr2
    exact ⟨none, _, hr2, hdone _ _ rfl (hI.putObj _ hi (by omega) hl rfl) ((World.putObj_heap_other (by omega)).trans hk) (kpo _ _ _ hl hkp)⟩
   ·have hst : (rec .done (some .ret)).state ≠ .busy := by rw [hrec]; simp
    have hr2 := run_endLoop (P := P) hl hst
    have hp : (rec .done (some .ret)).pending = some .ret := by rw [hrec]
    rw [hp] at hr2
    exact ⟨some .ret, _, hr2, hstop _ k _ rfl hkl (hIx.putObj _ hi (by omega) hl rfl) ((World.putObj_heap_other (by omega)).trans hk)⟩
end Go.Proofs.YtcgmkjpgaigmfaaGreat

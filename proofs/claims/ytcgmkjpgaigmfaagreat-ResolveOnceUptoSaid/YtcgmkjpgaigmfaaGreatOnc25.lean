import Derived.Test.YtcgmkjpgaigmfaaGreatOnc24
import Derived.Test.YtcgmkjpgaigmfaaGreatOnc23
import Derived.Shelf.Abstract
import Derived.OwnWalkIn
import Derived.TacticsInMore
import Derived.LoopNIn
import Derived.Laws.EntriesVeiled
import Derived.Outline
set_option linter.all false
/-! A range over a function whose rounds may stop it by a return: the law, over the kit's 'wpIn_rangeFunc'. -/
namespace Go.Proofs.YtcgmkjpgaigmfaaGreat
open Go.RowKit
/-- One call of yield: it tells to go on (c), and R; or not to, and S. -/
def YldS (P : Program) (l : Nat) (v : Value) (W : World) (c : Bool) (R S : World → Prop) : Prop :=
  ∃ m, YieldAt Fence.wide m P l #[v] W fun e W' => e = .returned (.bool c) ∧ (c = true → R W') ∧ (c = false → S W')
/-- An iterator that stops where it is told to. -/
def GivesS {α : Type} (P : Program) (gf : Nat) (lb : Array Value) (R : α → Value → World → Prop) (ex : TypeId → Bool) (xs : List α) (go : α → Bool) (K : World → Prop) (w : World) : Prop :=
  ∀ (l : Nat) (J S : Nat → World → Prop) (W : World), Below w.heap.size w W → OwnFrom W.heap.size J → OwnFrom W.heap.size S → (∀ k W', J k W' → K W') →
    (∀ k x v W1, xs[k]? = some x → J k W1 → R x v W1 → YldS P l v W1 (go x) (fun W' => J (k + 1) W' ∧ Kp ex W1 W') (S k)) →
    J 0 W → Calls P gf (#[.func (.yield l) #[] #[]] ++ lb) W fun e W' => (∃ v, e = .returned v) ∧ ((J xs.length W' ∧ Kp ex W W') ∨ ∃ k, k < xs.length ∧ S k W')
/-- The law: an outermost loop over an iterator that 'GivesS'. -/
theorem wp_rangeS {α : Type} {n : Nat} {P : Program} {g : Operand} {ps : Array Tmp} {assign body : Code} {Q : Exit → Act → World → Prop} {a : Act} {w w0 : World} {gf : Nat} {lb : Array Value}
    {R : α → Value → World → Prop} {ex : TypeId → Bool} {xs : List α}
    (hg : a.eval g = .func (.func gf) #[] lb) (eg : ∀ args w, (callFunc gf args).run P w = .ok (.enter gf args) w) {go : α → Bool} {K : World → Prop} (hseq : GivesS P gf lb R ex xs go K w0) (hb0 : Below w0.heap.size w0 w) (hps : ps.size = 1)
    (hR : ∀ x v, OwnFrom w.heap.size (fun (_ : Unit) W => R x v W)) (I Ix : Nat → World → Prop) (hI : OwnFrom w.heap.size I) (hIx : OwnFrom w.heap.size Ix) (hIK : ∀ k W', I k W' → K W') (h0 : I 0 w) (a₁ : Value → World → Act) (W₁ : Value → World → World) (hW₁ : ∀ v W, Below W.heap.size W (W₁ v W))
    (hassign : ∀ (l : Nat) (x : α) (v : Value) (W : World) (K : Act → World → Prop), R x v W → K (a₁ v W) (W₁ v W) →
      assign.wpIn (Fence.wide.inRound l) n P (Exit.then K (fun _ _ _ => False)) { tmps := (ps.zip #[v]).foldl (fun t (p, v) => t.setIfInBounds p v) a.tmps, defers := [] } W)
    (hbody : ∀ (l k : Nat) (x : α) (v : Value) (W0 W : World), w.heap.size ≤ l → xs[k]? = some x → R x v W0 → (∀ (k : Nat) (o : Obj), (W₁ v W0).heap[k]? = some o → o.isCells = true → W.heap[k]? = some o) → I k W → R x v W →
      body.wpIn (Fence.wide.inRound l) n P (fun e _ W' => (e = .normal ∧ go x = true ∧ Kp ex W W' ∧ I (k + 1) W') ∨ (e = .ret ∧ go x = false ∧ Kp ex W W' ∧ Ix k W')) (a₁ v W0) W)
    (hdone : ∀ (D : Nat) (W : World), D = w.heap.size → I xs.length W → W.heap[D]? = some (.deferred (some [])) → Kp ex w W → Q .normal { a with defers := mark D :: a.defers } W)
    (hstop : ∀ (D k : Nat) (W : World), D = w.heap.size → k < xs.length → Ix k W → W.heap[D]? = some (.deferred (some [])) → Code.ret.wpIn Fence.wide n P Q { a with defers := mark D :: a.defers } W) :
    (Code.rangeFunc g ps assign body).wpIn Fence.wide n P Q a w := by
  refine wpIn_rangeFunc ?_
  intro fn hfn
  obtain ⟨rec, hrec⟩ : ∃ rec : LoopState → Option Code → Loop, rec = fun st pe => { state := st, pending := pe, fn, tmps := a.tmps, params := ps, assign, body, defers := w.heap.size } := ⟨_, rfl⟩
  have hps' : ∀ st pe, (rec st pe).params = ps := fun st pe => by rw [hrec]
  obtain ⟨W1, hW1⟩ : ∃ W1, (w.alloc (.deferred (some []))).alloc (.loop (rec .ready none)) = W1 := ⟨_, rfl⟩
  have bW1 : Below w.heap.size w W1 := by rw [← hW1]; exact ((Below.refl _ w).alloc (Nat.le_refl _) _).alloc (by simp) _
  have sW1 : W1.heap.size = w.heap.size + 2 := by rw [← hW1]; simp
  have hL1 : W1.heap[w.heap.size + 1]? = some (.loop (rec .ready none)) := by
    rw [← hW1]; have := World.alloc_heap_new (w.alloc (.deferred (some []))) (.loop (rec .ready none)); rwa [World.size_alloc] at this
  have hK1 : W1.heap[w.heap.size]? = some (.deferred (some [])) := by
    rw [← hW1]; exact (Below.heap_alloc _ _ _ (by simp)).trans (World.alloc_heap_new w _)
  have hI1 : I 0 W1 := by rw [← hW1]; exact hI.alloc _ (hI.alloc _ h0)
  refine ⟨w.heap.size + 1, [mark w.heap.size], W1, { target := .fn (.func gf) lb, args := #[.func (.yield (w.heap.size + 1)) #[] #[]] }, W1, gf, #[.func (.yield (w.heap.size + 1)) #[] #[]] ++ lb, W1, ?_, ?_, ?_, ?_, fun h => absurd h (by simp [Fence.wide]), ?_⟩
  · rw [← hW1, hrec]; exact run_enterLoop_outer _ _ _ _ _
  · simp only [resolve, hg]
    simp [go_sem]
  · intro f' _; exact trivial
  · simp [invoke, go_sem, eg]
  · have own3 : ∀ (st : LoopState) (pe : Option Code) (X : Nat → World → Prop), OwnFrom w.heap.size X → OwnFrom W1.heap.size (fun k W => X k W ∧ W.heap[w.heap.size + 1]? = some (.loop (rec st pe)) ∧ W.heap[w.heap.size]? = some (.deferred (some [])) ∧ Kp ex w W) := by
      intro st pe X hX s A B row hs hg' hr
      obtain ⟨i1, i2, i3, i4⟩ := hs
      have far : ∀ k, k < W1.heap.size → B.heap[k]? = A.heap[k]? ∨ A.heap[k]? = none := fun k hk => by
        by_cases hlt : k < A.heap.size
        · exact .inl (hg'.block k hlt (fun e => by have := (hr _ e.symm).1; omega))
        · exact .inr (Array.getElem?_eq_none (by omega))
      refine ⟨hX s A B row i1 hg' (fun r e => ⟨by have := (hr r e).1; omega, (hr r e).2⟩), ?_, ?_, ?_⟩
      · rcases far (w.heap.size + 1) (by omega) with h | h
        · rw [h]; exact i2
        · rw [i2] at h; cases h
      · rcases far w.heap.size (by omega) with h | h
        · rw [h]; exact i3
        · rw [i3] at h; cases h
      · refine ⟨hg'.os.trans i4.os, hg'.tape.trans i4.tape, hg'.output.trans i4.output, Nat.le_trans i4.size hg'.size, fun k o hk ho => ?_⟩
        have hkw := (Array.getElem?_eq_some_iff.1 hk).1
        have hA := i4.same k o hk ho
        rcases far k (by omega) with h | h
        · rw [h]; exact hA
        · rw [hA] at h; cases h
    have own2 : OwnFrom W1.heap.size (fun k W => Ix k W ∧ W.heap[w.heap.size + 1]? = some (.loop (rec .done (some .ret))) ∧ W.heap[w.heap.size]? = some (.deferred (some []))) := by
      intro s A B row hs hg' hr
      obtain ⟨i1, i2, i3⟩ := hs
      have far : ∀ k, k < W1.heap.size → B.heap[k]? = A.heap[k]? ∨ A.heap[k]? = none := fun k hk => by
        by_cases hlt : k < A.heap.size
        · exact .inl (hg'.block k hlt (fun e => by have := (hr _ e.symm).1; omega))
        · exact .inr (Array.getElem?_eq_none (by omega))
      refine ⟨hIx s A B row i1 hg' (fun r e => ⟨by have := (hr r e).1; omega, (hr r e).2⟩), ?_, ?_⟩
      · rcases far (w.heap.size + 1) (by omega) with h | h
        · rw [h]; exact i2
        · rw [i2] at h; cases h
      · rcases far w.heap.size (by omega) with h | h
        · rw [h]; exact i3
        · rw [i3] at h; cases h
    refine callsIn_wide.2 ((hseq (w.heap.size + 1) (fun k W => I k W ∧ W.heap[w.heap.size + 1]? = some (.loop (rec .ready none)) ∧ W.heap[w.heap.size]? = some (.deferred (some [])) ∧ Kp ex w W)
      (fun k W => Ix k W ∧ W.heap[w.heap.size + 1]? = some (.loop (rec .done (some .ret))) ∧ W.heap[w.heap.size]? = some (.deferred (some []))) W1 (hb0.trans (bW1.mono hb0.size)) (own3 _ _ _ hI) own2 (fun k W' h => hIK k W' h.1) ?_
      ⟨hI1, hL1, hK1, Kp.of_below ex bW1⟩).mono ?_)
    · rintro k x v W hx ⟨hi, hl, hk, hkp⟩ hr
      have hlt : w.heap.size + 1 < W.heap.size := (Array.getElem?_eq_some_iff.1 hl).1
      have hy := run_yield (P := P) (args := #[v]) hl (by rw [hps', hps]; rfl)
      refine ⟨n, (rec .ready none).fn, _, (rec .ready none).assign, (rec .ready none).body, hy, ?_⟩
      have e1 : (rec .ready none).fn = fn := by rw [hrec]
      have e2 : (rec .ready none).assign = assign := by rw [hrec]
      have e3 : (rec .ready none).body = body := by rw [hrec]
      have e4 : (rec .ready none).tmps = a.tmps := by rw [hrec]
      rw [e1, e2, e3, e4, hps']
      refine roundIn_of_wpIn hfn (hassign _ x v W _ hr ?_)
      have hst : (rec .ready none).state = .ready := by rw [hrec]
      have bX := hW₁ v W
      obtain ⟨X, hX⟩ : ∃ X, W₁ v W = X := ⟨_, rfl⟩
      have hkeep : ∀ (k : Nat) (o : Obj), (W₁ v W).heap[k]? = some o → o.isCells = true → (X.putObj (w.heap.size + 1) (.loop (rec .busy none))).heap[k]? = some o := fun k o hko hoc => by
        rw [hX] at hko
        rw [World.putObj_heap_other (show k ≠ w.heap.size + 1 from fun e => ?_)]
        · exact hko
        · subst e
          have := (hX ▸ bX).block (w.heap.size + 1) hlt
          rw [this, hl] at hko
          injection hko with hko
          subst hko
          cases hoc
      rw [hX] at bX ⊢
      have hlX : X.heap[w.heap.size + 1]? = some (.loop (rec .ready none)) := (bX.block _ hlt).trans hl
      have hkX : X.heap[w.heap.size]? = some (.deferred (some [])) := (bX.block _ (by omega)).trans hk
      have hgX : W.grownBy X none := ⟨bX.os, bX.tape, bX.output, bX.size, fun i hi _ => bX.block i hi⟩
      have hiX : I k X := hI k W X none hi hgX (fun r e => by cases e)
      have hrX : R x v X := hR x v () W X none hr hgX (fun r e => by cases e)
      have hltX : w.heap.size + 1 < X.heap.size := (Array.getElem?_eq_some_iff.1 hlX).1
      refine ⟨_, run_beginRound hlX hst, ?_⟩
      have eb : ({ rec .ready none with state := .busy } : Loop) = rec .busy none := by rw [hrec]
      rw [eb]
      have hl2 : (X.putObj (w.heap.size + 1) (.loop (rec .busy none))).heap[w.heap.size + 1]? = some (.loop (rec .busy none)) := World.putObj_heap_same hltX
      refine wpIn_mono (hbody _ k x v W _ (by omega) hx hr hkeep (hI.putObj _ hiX (by omega) hlX rfl) ((hR x v).putObj (s := ()) _ hrX (by omega) hlX rfl)) ?_
      rintro e a3 W3 (⟨rfl, hgo, hk3, hi3⟩ | ⟨rfl, hgo, hk3, hi3⟩)
      · have hl3 := hk3.other hl2 rfl
        have hr3 := run_endRound (P := P) none hl3
        have ec : ({ rec .busy none with state := if (none : Option Code).isNone then .ready else .done, pending := none } : Loop) = rec .ready none := by rw [hrec]; rfl
        rw [ec] at hr3
        have kp3 := kp_putObj hk3 hlX
        have kp4 := (Kp.of_below ex bX).trans kp3
        have hlt3 : w.heap.size + 1 < W3.heap.size := (Array.getElem?_eq_some_iff.1 hl3).1
        exact ⟨_, _, hr3, by rw [hgo]; rfl, fun _ => ⟨⟨hI.putObj _ hi3 (by omega) hl3 rfl, World.putObj_heap_same hlt3, kp3.other hkX rfl, hkp.trans kp4⟩, kp4⟩, fun h => by rw [hgo] at h; cases h⟩
      · have hl3 := hk3.other hl2 rfl
        have hr3 := run_endRound (P := P) (some .ret) hl3
        have ec : ({ rec .busy none with state := if (some Code.ret).isNone then .ready else .done, pending := some .ret } : Loop) = rec .done (some .ret) := by rw [hrec]; rfl
        rw [ec] at hr3
        have hlt3 : w.heap.size + 1 < W3.heap.size := (Array.getElem?_eq_some_iff.1 hl3).1
        exact ⟨_, _, hr3, by rw [hgo]; rfl, fun h => (by rw [hgo] at h; cases h), fun _ => ⟨hIx.putObj _ hi3 (by omega) hl3 rfl, World.putObj_heap_same hlt3, (World.putObj_heap_other (by omega)).trans (hk3.other ((World.putObj_heap_other (by omega)).trans hkX) rfl)⟩⟩
    · rintro e W2 ⟨⟨v, rfl⟩, hJS⟩
      have kpo : ∀ (pe : Option Code) (st : LoopState) (o : Obj), W2.heap[w.heap.size + 1]? = some (.loop (rec st pe)) → Kp ex w W2 → Kp ex w (W2.putObj (w.heap.size + 1) o) := fun pe st o hl hkp => by
        refine ⟨hkp.os, hkp.tape, hkp.output, by simpa using hkp.size, fun k o hk' ho => ?_⟩
        have := (Array.getElem?_eq_some_iff.1 hk').1
        rw [World.putObj_heap_other (by omega)]
        exact hkp.same k o hk' ho
      rcases hJS with ⟨⟨hi, hl, hk, hkp⟩, _⟩ | ⟨k, hkl, hi, hl, hk⟩
      · have hst : (rec .ready none).state ≠ .busy := by rw [hrec]; simp
        have hr2 := run_endLoop (P := P) hl hst
        have hp : (rec .ready none).pending = none := by rw [hrec]
        rw [hp] at hr2
        exact ⟨none, _, hr2, hdone _ _ rfl (hI.putObj _ hi (by omega) hl rfl) ((World.putObj_heap_other (by omega)).trans hk) (kpo _ _ _ hl hkp)⟩
      · have hst : (rec .done (some .ret)).state ≠ .busy := by rw [hrec]; simp
        have hr2 := run_endLoop (P := P) hl hst
        have hp : (rec .done (some .ret)).pending = some .ret := by rw [hrec]
        rw [hp] at hr2
        exact ⟨some .ret, _, hr2, hstop _ k _ rfl hkl (hIx.putObj _ hi (by omega) hl rfl) ((World.putObj_heap_other (by omega)).trans hk)⟩
end Go.Proofs.YtcgmkjpgaigmfaaGreat
/-! Layer 7: the items, told one after another to a yield: many. -/
namespace Go.Proofs.YtcgmkjpgaigmfaaGreat
open Go.RowKit
attribute [local go_sem] Oper.semAt_some
def itC (x : It) (scs : List Value) : List Value := .int .u8 x.kind :: .int .i64 x.a :: .int .i64 x.b :: scs
def zStC : List Value := [.int .u8 0, .string strE, .string strE, .int .u8 0, .int .i64 0, .int .u64 0, .int .u64 0, .string strE, .string strE, .int .i64 0, .int .i64 0, .slice none 0 0, .slice none 0 0, .slice none 0 0]
theorem rSt_zero (w : World) (B : Nat) : rSt w B zStC zSt := by
  have he : rEx w B (exC 0 zLt strE strE 0 0 none ([] : List Ex).length 0) zEx := RE.intro ⟨by unfold u8; omega, by unfold okLt zLt i64 u64; simp, by decide, by decide, by unfold i64; omega, by unfold i64; omega⟩ (by simp [depthL, sm]) Sl.nil_
  exact RS.intro (thn := []) (els := []) (A := none) (A' := none) (cap := 0) (cap' := 0) ⟨by unfold u8; omega, by decide, by decide⟩ ⟨Nat.zero_le _, Nat.zero_le _⟩ he Sl.nil_ Sl.nil_
/-- What is handed to yield reads as an item, in the memory below B. -/
def itR (B : Nat) (x : It) (v : Value) (W : World) : Prop := ∃ cs : List Value, v = .agg cs.toArray ∧ rIt W B cs x
theorem itR_zero (B : Nat) (kind a b : Int) (W : World) : itR B ⟨kind, a, b, zSt⟩ (.agg #[.int .u8 kind, .int .i64 a, .int .i64 b, .int .u8 0, .string (ByteArray.mk #[]), .string (ByteArray.mk #[]), .int .u8 0, .int .i64 0, .int .u64 0, .int .u64 0, .string (ByteArray.mk #[]), .string (ByteArray.mk #[]), .int .i64 0, .int .i64 0, .slice none 0 0, .slice none 0 0, .slice none 0 0]) W :=
  ⟨_, rfl, _, rfl, rSt_zero W B⟩
def exI : TypeId → Bool := fun t => t == 3 || t == 33
/-- Does it go on at all places from j on, n of them? -/
def runB (g : Nat → Bool) (j n : Nat) : Bool := (List.range n).all fun i => g (j + i)
theorem runB_zero (g : Nat → Bool) (j : Nat) : runB g j 0 = true := rfl
theorem runB_add (g : Nat → Bool) (j a b : Nat) : runB g j (a + b) = (runB g j a && runB g (j + a) b) := by
  unfold runB
  rw [List.range_add, List.all_append, List.all_map]
  congr 2
  funext i
  simp [Nat.add_assoc]
theorem runB_one (g : Nat → Bool) (j : Nat) : runB g j 1 = g j := by simp [runB]
theorem runB_succ (g : Nat → Bool) (j a : Nat) : runB g j (a + 1) = (runB g j a && g (j + a)) := by rw [runB_add, runB_one]
theorem runB_stop {g : Nat → Bool} {j a n : Nat} (h : runB g j a = false) (hn : a ≤ n) : runB g j n = false := by
  obtain ⟨b, rfl⟩ := Nat.exists_eq_add_of_le hn
  rw [runB_add, h]; rfl
/-- The law of yield, over all items. -/
def Yl (l : Nat) (B : Nat) (xs : List It) (g : Nat → Bool) (J S : Nat → World → Prop) : Prop :=
  ∀ k x v W1, xs[k]? = some x → J k W1 → itR B x v W1 → YldS Tryz.prog l v W1 (g k) (fun W' => J (k + 1) W' ∧ Kp exI W1 W') (S k)
/-- What has been told: m of them from the j-th one on; or it was stopped. -/
def Told (n : Nat) (g : Nat → Bool) (J S : Nat → World → Prop) (W : World) (j m : Nat) (e : Ending) (W' : World) : Prop :=
  e = .returned (.bool (runB g j m)) ∧ (runB g j m = true → J (j + m) W' ∧ Kp exI W W') ∧ (runB g j m = false → ∃ k, k < n ∧ S k W')
theorem told_yes {n : Nat} {g : Nat → Bool} {J S : Nat → World → Prop} {W W' : World} {j m : Nat} (h : runB g j m = true) (hJ : J (j + m) W') (hk : Kp exI W W') : Told n g J S W j m (.returned (.bool true)) W' :=
  ⟨by rw [h], fun _ => ⟨hJ, hk⟩, fun h' => by rw [h] at h'; cases h'⟩
theorem told_no {n : Nat} {g : Nat → Bool} {J S : Nat → World → Prop} {W W' : World} {j m : Nat} (h : runB g j m = false) (hS : ∃ k, k < n ∧ S k W') : Told n g J S W j m (.returned (.bool false)) W' :=
  ⟨by rw [h], fun h' => (by rw [h] at h'; cases h'), fun _ => hS⟩
theorem own_step_none {B : Nat} {J : Nat → World → Prop} (h : OwnFrom B J) {k : Nat} {W W' : World} (hs : J k W) (hb : Below W.heap.size W W') : J k W' :=
  h k W W' none hs ⟨hb.os, hb.tape, hb.output, hb.size, fun i hi _ => hb.block i hi⟩ (fun r e => by cases e)
def muSlot (s n : Nat) (a : Act) (_ : World) : Nat := match a.tmps[s]? with
  | some (Value.int _ x) => ((n : Int) - x).toNat
  | _ => 0
set_option maxRecDepth 100000 in
set_option maxHeartbeats 2000000 in
theorem many_tells {l B : Nat} {xs : List It} {g : Nat → Bool} {J S : Nat → World → Prop} (hY : Yl l B xs g J S) (kind a : Int) (n j : Nat) (hn : n ≤ 9223372036854775807) (h : ∀ i : Nat, i < n → xs[j + i]? = some ⟨kind, a, (i : Int), zSt⟩) (W : World) (hJ : J j W) :
    Calls Tryz.prog 51 #[.int .u8 kind, .int .i64 a, .int .i64 (n : Int), .func (.yield l) #[] #[]] W (Told xs.length g J S W j n) := by
  refine (callsIn_wide (n := 3)).1 (callsIn_of_wp_marks Tryz.func51 rfl trivial ?_)
  simp only [Tryz.ntmps51, List.size_toArray, List.length_cons, List.length_nil, Nat.reduceAdd, Nat.reduceSub, Array.replicate_succ, Array.replicate_zero, List.push_toArray, List.append_toArray, List.nil_append, List.cons_append]
  gi_wp2
  refine wpIn_loop (fun a1 W' => ∃ (k : Nat) (u9 u12 u13 u14 u15 u16 u17 u18 u19 u20 u21 : Value), k ≤ n ∧ runB g j k = true ∧ J (j + k) W' ∧ Kp exI W W' ∧
      a1 = { tmps := #[.int .u8 kind, .int .i64 a, .int .i64 (n : Int), .func (.yield l) #[] #[], undef, undef, undef, undef, .bool false, u9, .int .i64 (n : Int), .int .i64 (k : Int), u12, u13, u14, u15, u16, u17, u18, u19, u20, u21], defers := [] })
      (muSlot 11 n) ⟨0, undef, undef, undef, undef, undef, undef, undef, undef, undef, undef, undef, Nat.zero_le _, runB_zero _ _, hJ, Kp.refl _ _, rfl⟩ ?_
  rintro a1 W' ⟨k, u9, u12, u13, u14, u15, u16, u17, u18, u19, u20, u21, hk, hrun, hJ', hkp, rfl⟩
  by_cases hlt : k < n
  · have hlt1 : (k : Int) < (n : Int) := by omega
    obtain ⟨mm, fn, tmps, assign, body, hy, hR⟩ := hY _ _ _ W' (h k hlt) hJ' (itR_zero B kind a (k : Int) W')
    have hx0 := hide (h k hlt)
    have hsuc := hide (runB_succ g j k)
    have hrun' := hide hrun
    clear h hJ hJ' hrun
    gi_wp2
    refine (round_wide0 hR).mono ?_
    rintro e W3 ⟨rfl, h1, h2⟩
    cases hc : g (j + k) with
    | true =>
      obtain ⟨hJ3, hk3⟩ := h1 hc
      have hJN := hide (show J (j + (k + 1)) W3 from hJ3)
      have hkN := hide (hkp.trans hk3)
      have hrN := hide (show runB g j (k + 1) = true from by rw [hsuc.out, hrun'.out, hc]; rfl)
      clear h1 h2 hJ3 hk3 hc
      gi_wp2
      refine ⟨⟨k + 1, _, _, _, _, _, _, _, _, _, _, _, by omega, hrN.out, hJN.out, hkN.out, rfl⟩, ?_⟩
      simp only [muSlot, List.getElem?_toArray, List.getElem?_cons_succ, List.getElem?_cons_zero]
      omega
    | false =>
      have hS3 := hide (h2 hc)
      have hjk := hide ((List.getElem?_eq_some_iff.1 hx0.out).1)
      have hrN := hide (show runB g j n = false from runB_stop (a := k + 1) (by rw [hsuc.out, hc]; simp) (by omega))
      clear h1 h2 hc
      gi_wp2
      exact ⟨_, results_tmp rfl _ _ _, told_no hrN.out ⟨_, hjk.out, hS3.out⟩⟩
  · have hlt1 : ¬ (k : Int) < (n : Int) := by omega
    have hke : k = n := by omega
    subst hke
    have hJN := hide hJ'
    have hkN := hide hkp
    have hrN := hide hrun
    clear hJ' hkp h hJ hrun
    gi_wp2
    exact ⟨_, results_tmp rfl _ _ _, told_yes hrN.out hJN.out hkN.out⟩
end Go.Proofs.YtcgmkjpgaigmfaaGreat

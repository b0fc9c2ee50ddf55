import Derived.Test.YtmfpbahifhndjaaGreatLow14
import Derived.Test.YtmfpbahifhndjaaGreatLow08
import Derived.Test.YtmfpbahifhndjaaGreatLow02
set_option linter.all false
/-! A region that draws its order: a head that only reads, a call, a new box that may be laid at any time, and a store into it. -/
namespace Go.Proofs.YtmfpbahifhndjaaGreat
open Go Go.RowKit
/-- What only reads: one value, the world as it was. -/
def pureUpon (w : World) (v : Value) : Result Next → Prop
 | .ok (.value u) w' => w' = w ∧ u = v
 | .ok .skip w' => w' = w ∧ v = undef
 | _ => False
def pureAt (P : Program) (o : Oper) (a : Act) (w : World) (v : Value) : Prop := pureUpon w v ((execOp a.eval o).run P w)
/-- The same value in two worlds. -/
def pureTwo (P : Program) (o : Oper) (a : Act) (w1 w2 : World) (K : Act → Prop) : Prop := ∃ v, pureAt P o a w1 v ∧ pureAt P o a w2 v ∧ K (a.put o.dst v)
def wpTwo (P : Program) (ops : Array Oper) (w1 w2 : World) (Q : Act → Prop) : List Oper → Act → Prop
 | [], a => Q a
 | o :: rest, a => if Region.wanted o (yielded ops a.tmps) then pureTwo P o a w1 w2 (wpTwo P ops w1 w2 Q rest) else wpTwo P ops w1 w2 Q rest (a.put o.dst undef)
section
variable {P : Program} {ops : Array Oper} {md : Region.Mode} {w1 w2 : World}
theorem wpTwo_nil {Q : Act → Prop} {a : Act} (h : Q a) : wpTwo P ops w1 w2 Q [] a := h
theorem wpTwo_step {Q : Act → Prop} {a : Act} {o : Oper} {rest : List Oper}
  (h : ∀ K : Act → Prop, (∀ a, wpTwo P ops w1 w2 Q rest a → K a) → if Region.wanted o (yielded ops a.tmps) then pureTwo P o a w1 w2 K else K (a.put o.dst undef)) : wpTwo P ops w1 w2 Q (o :: rest) a := h _ fun _ h => h
def YP (P : Program) (ops : Array Oper) (w1 w2 : World) (o : Oper) (a : Act) (v : Value) : Prop :=
 (Region.wanted o (yielded ops a.tmps) = true ∧ pureAt P o a w1 v ∧ pureAt P o a w2 v) ∨ (Region.wanted o (yielded ops a.tmps) = false ∧ v = undef)
theorem YP.eq {o : Oper} {a a' : Act} {v : Value} (he : execOp a'.eval o = execOp a.eval o) (hw : Region.wanted o (yielded ops a'.tmps) = Region.wanted o (yielded ops a.tmps)) (h : YP P ops w1 w2 o a v) : YP P ops w1 w2 o a' v := by
 unfold YP pureAt at *; rw [he, hw]; exact h
theorem YP.put {o : Oper} {a : Act} {v u : Value} {dst : Option Tmp} (hs : ∀ cs b, o.op ≠ .select cs b) (hd : ∀ d, dst = some d → d ∉ o.looksAt ops) (h : YP P ops w1 w2 o a v) : YP P ops w1 w2 o (a.put dst u) v :=
 h.eq (execOp_put o hs a dst u hd) (wanted_put o a dst u hd)
theorem YP.unput {o : Oper} {a : Act} {v u : Value} {dst : Option Tmp} (hs : ∀ cs b, o.op ≠ .select cs b) (hd : ∀ d, dst = some d → d ∉ o.looksAt ops) (h : YP P ops w1 w2 o (a.put dst u) v) : YP P ops w1 w2 o a v :=
 h.eq (execOp_put o hs a dst u hd).symm (wanted_put o a dst u hd).symm
def tOp (P : Program) (ops : Array Oper) (w1 w2 : World) (i : Nat) (K : Act → Prop) (a : Act) : Prop := ∃ o v, ops[i]? = some o ∧ YP P ops w1 w2 o a v ∧ K (a.put o.dst v)
theorem wpOp_of_YP {i : Nat} {o : Oper} {v : Value} {b : Act} {w : World} {K : Act → World → Prop} {Q : Exit → Act → World → Prop} (hw : w = w1 ∨ w = w2) (ho : ops[i]? = some o) (hy : YP P ops w1 w2 o b v) (hK : K (b.put o.dst v) w) : wpOp P ops Q i K b w := by
 unfold wpOp
 simp only [ho]
 rcases hy with ⟨h1, h2, h3⟩ | ⟨h1, rfl⟩
 ·have h4 : pureAt P o b w v := by rcases hw with rfl | rfl <;> assumption
  simp only [h1, if_true]
  left
  unfold pureAt at h4
  unfold Oper.wp
  generalize (execOp b.eval o).run P w = r at *
  cases r with
  | ok x w' =>
   cases x <;> simp only [pureUpon] at h4 <;> simp only [Oper.upon]
   ·obtain ⟨rfl, rfl⟩ := h4; exact hK
   ·obtain ⟨rfl, rfl⟩ := h4; exact hK
  | halt x w' => simp only [pureUpon] at h4
 ·simp only [h1, Bool.false_eq_true, if_false]; exact hK
/-- Whatever order the head takes; the operation behind the call stands by. -/
def headF (P : Program) (md : Region.Mode) (ops : Array Oper) (w1 w2 : World) (n : Nat) (L : Array Bool → Act → Prop) : Nat → Array Bool → Act → Prop
 | 0, listed, a => L listed a
 | k + 1, listed, a => (∃ i ∈ Region.ready md ops listed, i ≠ n + 1) ∧ ∀ i ∈ Region.ready md ops listed, i ≠ n + 1 → i < n ∧ tOp P ops w1 w2 i (headF P md ops w1 w2 n L k (listed.setIfInBounds i true)) a
theorem call_waits {n : Nat} {listed : Array Bool} (hs : Region.sinkB md ops n = true) (inv : HeadInv md ops n listed) : ∀ (d i : Nat), n - i = d → i < n → listed.getD i true = false → n ∉ Region.ready md ops listed := by
 intro d
 induction d using Nat.strongRecOn with
 | _ d ih =>
  intro i hd hi hun hr
  obtain ⟨_, on, hon, hall⟩ := mem_ready.1 hr
  obtain ⟨j, hj, hj2⟩ := List.any_eq_true.1 (List.all_eq_true.1 hs i (List.mem_range.2 hi))
  simp only [Bool.and_eq_true, decide_eq_true_eq] at hj2
  obtain ⟨oj, hoj, e, he, hb, heq⟩ := Region.waitsFor_spec hj2.2
  have hjle := List.mem_range.1 hj
  have hno : ∀ o, ops[j]? = some o → e ∈ o.after → (∀ x ∈ o.after, Region.binds md x = true → listed.getD x.on false = true) → False := fun o _ hx hl => by
   have := hl e hx hb
   rw [heq, getD_both hun] at this
   cases this
  by_cases hjn : j = n
  ·subst hjn
   have : oj = on := Option.some.inj (hoj.symm.trans hon)
   subst this
   exact hno _ hoj he hall
  ·cases hl : listed.getD j false with
   | true => exact hno _ hoj he (inv.closed j oj hoj hl)
   | false => exact ih (n - j) (by omega) j rfl (by omega) (getD_in (by rw [inv.size]; exact (Array.getElem?_eq_some_iff.1 hoj).1) hl) hr
/-- The last one waits for the call. -/
theorem last_waits {n : Nat} {listed : Array Bool} (h : Region.waitsFor md ops (n + 2) n = true) (inv : HeadInv md ops n listed) (hn : n < ops.size) : n + 2 ∉ Region.ready md ops listed := fun hr => by
 obtain ⟨_, o, ho, hall⟩ := mem_ready.1 hr
 obtain ⟨o', ho', e, he, hb, heq⟩ := Region.waitsFor_spec h
 have : o' = o := Option.some.inj (ho'.symm.trans ho)
 subst this
 have := hall e he hb
 rw [heq, getD_both (inv.tail n (Nat.le_refl _) hn)] at this
 cases this
theorem head_ready {n i j : Nat} {listed : Array Bool} (hs : Region.sinkB md ops n = true) (hl : Region.waitsFor md ops (n + 2) n = true) (hz : ops.size = n + 3) (inv : HeadInv md ops n listed) (hi : i < n) (hun : listed.getD i true = false)
  (hj : j ∈ Region.ready md ops listed) (hjf : j ≠ n + 1) : j < n := by
 have hlt : j < ops.size := by obtain ⟨_, o, ho, _⟩ := mem_ready.1 hj; exact (Array.getElem?_eq_some_iff.1 ho).1
 refine Nat.lt_of_not_le fun h => ?_
 rcases (show j = n ∨ j = n + 2 by omega) with rfl | rfl
 ·exact call_waits hs inv _ i rfl hi hun hj
 ·exact last_waits hl inv (by omega) hj
theorem tOp_put {j : Nat} {oi oj : Oper} {v : Value} {K : Act → Prop} {a : Act} (hj : ops[j]? = some oj) (hap : oi.apart ops oj = true) (hsi : ∀ cs b, oi.op ≠ .select cs b) (hsj : ∀ cs b, oj.op ≠ .select cs b)
  (hy : YP P ops w1 w2 oi a v) (h : tOp P ops w1 w2 j K (a.put oi.dst v)) : tOp P ops w1 w2 j (fun a' => YP P ops w1 w2 oi a' v ∧ K (a'.put oi.dst v)) a := by
 obtain ⟨h1, h2, h3⟩ := Oper.apart_spec hap
 obtain ⟨o, u, ho, hu, hK⟩ := h
 have : o = oj := Option.some.inj (ho.symm.trans hj)
 subst this
 exact ⟨o, u, ho, hu.unput hsj h1, hy.put hsi h3, by rw [← Act.put_comm a v u h2]; exact hK⟩
theorem tOp_mono {i : Nat} {a : Act} {K K' : Act → Prop} (h : ∀ a, K a → K' a) (hh : tOp P ops w1 w2 i K a) : tOp P ops w1 w2 i K' a :=
 let ⟨o, v, h1, h2, h3⟩ := hh
 ⟨o, v, h1, h2, h _ h3⟩
theorem headF_first {n i : Nat} {oi : Oper} {v : Value} {L : Array Bool → Act → Prop} (hi : ops[i]? = some oi) (hsel : ∀ (j : Nat) (o : Oper) cs b, ops[j]? = some o → o.op ≠ .select cs b)
  (hs : Region.sinkB md ops n = true) (hl : Region.waitsFor md ops (n + 2) n = true) (hz : ops.size = n + 3) (hin : i < n) (hdone : ∀ listed a, L listed a → ∀ j ∈ Region.ready md ops listed, n ≤ j) :
  ∀ (f : Nat) (listed : Array Bool) (a : Act), HeadInv md ops n listed →
   (∀ j oj, ops[j]? = some oj → j ≠ i → listed.getD j true = false → (∀ e ∈ oj.after, Region.binds md e = true → e.on ≠ i) → oi.apart ops oj = true) →
   i ∈ Region.ready md ops listed → YP P ops w1 w2 oi a v → headF P md ops w1 w2 n L f (listed.setIfInBounds i true) (a.put oi.dst v) → headF P md ops w1 w2 n L (f + 1) listed a := by
 intro f
 induction f with
 | zero =>
  intro listed a inv _ hr hy H
  refine ⟨⟨i, hr, by omega⟩, fun j hj hjf => ?_⟩
  have hjn := head_ready hs hl hz inv hin (mem_ready.1 hr).1 hj hjf
  by_cases e : j = i
  ·subst e; exact ⟨hjn, oi, v, hi, hy, H⟩
  ·exact absurd (hdone _ _ H j (ready_mono hj e)) (by omega)
 | succ f ih =>
  intro listed a inv hfree hr hy H
  have hun := (mem_ready.1 hr).1
  refine ⟨⟨i, hr, by omega⟩, fun j hj hjf => ?_⟩
  have hjn := head_ready hs hl hz inv hin hun hj hjf
  refine ⟨hjn, ?_⟩
  by_cases e : j = i
  ·subst e; exact ⟨oi, v, hi, hy, H⟩
  ·obtain ⟨hjun, oj, hoj, hall⟩ := mem_ready.1 hj
   have hnot : ∀ x ∈ oj.after, Region.binds md x = true → x.on ≠ i := fun x hx hb he => by
    have h1 := hall x hx hb
    rw [he, getD_both hun] at h1
    cases h1
   refine tOp_mono (fun a' h3 => ih _ a' (inv.set hj hjn) (fun k ok hk hki hu hno => hfree k ok hk hki ?_ hno) (ready_mono hr (Ne.symm e)) h3.1 ?_)
    (tOp_put hoj (hfree j oj hoj e hjun hnot) (fun cs b => hsel i oi cs b hi) (fun cs b => hsel j oj cs b hoj) hy (H.2 j (ready_mono hj e) hjf).2)
   ·by_cases ejk : j = k
    ·subst ejk; exact hjun
    ·rw [getD_set_ne true ejk] at hu; exact hu
   ·rw [Array.setIfInBounds_comm _ _ e]
    exact h3.2
/-- What the orders behind the head are. -/
def endB (md : Region.Mode) (ops : Array Oper) (n : Nat) (listed : Array Bool) : Bool :=
 decide (Region.ready md ops listed = [n, n + 1]) && Region.seqB md ops 2 (n + 1) (listed.setIfInBounds n true) && decide (Region.ready md ops (listed.setIfInBounds (n + 1) true) = [n]) &&
  decide (Region.ready md ops ((listed.setIfInBounds (n + 1) true).setIfInBounds n true) = [n + 2]) && decide (Region.ready md ops (((listed.setIfInBounds (n + 1) true).setIfInBounds n true).setIfInBounds (n + 2) true) = [])
def lexF (md : Region.Mode) (ops : Array Oper) (n : Nat) : Nat → Nat → Array Bool → Bool
 | 0, _, listed => endB md ops n listed
 | f + 1, k, listed => (Region.ready md ops listed).contains k && Region.free md ops listed k && lexF md ops n f (k + 1) (listed.setIfInBounds k true)
/-- The head may go ahead of the call, and the box's operation stands apart. -/
def floatB (md : Region.Mode) (ops : Array Oper) (n : Nat) : Bool :=
 Region.noSelect ops && decide (ops.size = n + 3) && Region.sinkB md ops n && Region.waitsFor md ops (n + 2) n && !Region.waitsFor md ops n (n + 1) &&
  ((List.range n).all fun i => !Region.waitsFor md ops i (n + 1) && match ops[i]?, ops[n + 1]? with
   | some x, some y => x.apart ops y
   | _, _ => false) && lexF md ops n n 0 (Array.replicate ops.size false)
theorem headF_lex {n : Nat} {T : Act → Prop} (hsel : Region.noSelect ops = true) (hs : Region.sinkB md ops n = true) (hl : Region.waitsFor md ops (n + 2) n = true) (hz : ops.size = n + 3) :
  ∀ (l : List Oper) (k : Nat) (listed : Array Bool) (a : Act), (∀ j, j < l.length → l[j]? = ops[k + j]?) → k + l.length = n → HeadInv md ops n listed → lexF md ops n l.length k listed = true → wpTwo P ops w1 w2 T l a →
   headF P md ops w1 w2 n (fun x y => endB md ops n x = true ∧ T y) l.length listed a
 | [], k, listed, a, _, _, _, hB, h => ⟨by simpa [lexF] using hB, h⟩
 | o :: l, k, listed, a, hl', hk, inv, hB, h => by
  have h0 : ops[k]? = some o := by simpa using (hl' 0 (by simp)).symm
  simp only [List.length_cons, lexF, Bool.and_eq_true] at hB
  rw [List.length_cons] at hk
  have hr : k ∈ Region.ready md ops listed := by simpa using hB.1.1
  have hd : ∀ (x : Array Bool) (b : Act), (endB md ops n x = true ∧ T b) → ∀ j ∈ Region.ready md ops x, n ≤ j := fun x b hx j hj => by
   have := hx.1
   simp only [endB, Bool.and_eq_true, decide_eq_true_eq] at this
   rw [this.1.1.1.1] at hj
   simp at hj; omega
  have go : ∀ v, YP P ops w1 w2 o a v → wpTwo P ops w1 w2 T l (a.put o.dst v) → headF P md ops w1 w2 n (fun x y => endB md ops n x = true ∧ T y) (l.length + 1) listed a := fun v hy hK =>
   headF_first h0 (Region.noSelect_spec hsel) hs hl hz (by omega) hd l.length listed a inv (Region.free_spec h0 hB.1.2) hr hy
    (headF_lex hsel hs hl hz l (k + 1) _ _ (fun j hj => by have := hl' (j + 1) (by simpa using hj); simpa [Nat.add_assoc, Nat.add_comm 1 j] using this) (by omega) (inv.set hr (by omega)) hB.2 hK)
  unfold wpTwo at h
  by_cases hw : Region.wanted o (yielded ops a.tmps) = true
  ·rw [if_pos hw] at h
   obtain ⟨v, h1, h2, h3⟩ := h
   exact go v (.inl ⟨hw, h1, h2⟩) h3
  ·rw [if_neg hw] at h
   exact go undef (.inr ⟨by simpa using hw, rfl⟩) h
theorem getD_set_at {listed : Array Bool} {i : Nat} : (listed.setIfInBounds i true).getD i true = true := by
 rcases Nat.lt_or_ge i listed.size with h | h
 ·simp [h]
 ·simp [Array.getElem?_eq_none (show (listed.setIfInBounds i true).size ≤ i by simpa using h)]
/-- What may come up behind the box's operation might have come up ahead of it. -/
theorem ready_unset {i f : Nat} {listed : Array Bool} (hw : Region.waitsFor md ops i f = false) (h : i ∈ Region.ready md ops (listed.setIfInBounds f true)) : i ∈ Region.ready md ops listed ∧ i ≠ f := by
 obtain ⟨h0, o, ho, hall⟩ := mem_ready.1 h
 have hne : i ≠ f := fun e => by subst e; rw [getD_set_at] at h0; cases h0
 refine ⟨mem_ready.2 ⟨by rw [getD_set_ne true (Ne.symm hne)] at h0; exact h0, o, ho, fun e he hb => ?_⟩, hne⟩
 have h1 := hall e he hb
 by_cases ef : e.on = f
 ·exfalso
  unfold Region.waitsFor at hw
  rw [ho] at hw
  have := Array.any_eq_false'.1 hw e he
  simp [hb, ef] at this
 ·rwa [getD_set_ne false (Ne.symm ef)] at h1
theorem float_run {n : Nat} {of : Oper} {vf : Value} {L : Array Bool → Act → Prop} {Q : Exit → Act → World → Prop} (hf : ops[n + 1]? = some of) (hwf : ∀ y, Region.wanted of y = true) (hrun : ∀ a : Act, (execOp a.eval of).run P w1 = .ok (.value vf) w2)
  (hsel : ∀ (j : Nat) (o : Oper) cs b, ops[j]? = some o → o.op ≠ .select cs b) (hs : Region.sinkB md ops n = true) (hl : Region.waitsFor md ops (n + 2) n = true) (hc : Region.waitsFor md ops n (n + 1) = false) (hz : ops.size = n + 3)
  (hap : ∀ i, i < n → Region.waitsFor md ops i (n + 1) = false ∧ ∀ o, ops[i]? = some o → o.apart ops of = true)
  (h1 : ∀ listed a, L listed a → wpAny P md ops Q 3 listed a w1) (h2 : ∀ listed a, L listed a → wpAny P md ops Q 2 (listed.setIfInBounds (n + 1) true) (a.put of.dst vf) w2) :
  ∀ (k : Nat) (listed : Array Bool) (a : Act), HeadInv md ops n listed → headF P md ops w1 w2 n L k listed a → wpAny P md ops Q (k + 3) listed a w1 ∧ wpAny P md ops Q (k + 2) (listed.setIfInBounds (n + 1) true) (a.put of.dst vf) w2
 | 0, listed, a, _, h => by
  rw [Nat.zero_add, Nat.zero_add]
  exact ⟨h1 _ _ h, h2 _ _ h⟩
 | k + 1, listed, a, inv, h => by
  have ih := fun listed' a' inv' h' => float_run hf hwf hrun hsel hs hl hc hz hap h1 h2 k listed' a' inv' h'
  obtain ⟨⟨i0, hi0, hi0f⟩, hall⟩ := h
  have h2' : wpAny P md ops Q (k + 1 + 2) (listed.setIfInBounds (n + 1) true) (a.put of.dst vf) w2 := by
   rw [show k + 1 + 2 = (k + 2) + 1 by omega]
   refine ⟨fun h0 => (by have := ready_mono hi0 hi0f; rw [h0] at this; cases this), fun i hi => ?_⟩
   have hlt : i < n + 3 := by obtain ⟨_, o, ho, _⟩ := mem_ready.1 hi; rw [← hz]; exact (Array.getElem?_eq_some_iff.1 ho).1
   have hi' : i ∈ Region.ready md ops listed ∧ i ≠ n + 1 := by
    rcases (show i < n ∨ i = n ∨ i = n + 1 ∨ i = n + 2 by omega) with h | rfl | rfl | rfl
    ·exact ready_unset (hap i h).1 hi
    ·exact ready_unset hc hi
    ·have := (mem_ready.1 hi).1
     rw [getD_set_at] at this
     cases this
    ·obtain ⟨_, o, ho, hal⟩ := mem_ready.1 hi
     obtain ⟨o', ho', e, he, hb, heq⟩ := Region.waitsFor_spec hl
     have : o' = o := Option.some.inj (ho'.symm.trans ho)
     subst this
     have := hal e he hb
     rw [heq, getD_set_ne false (by omega), getD_both (inv.tail n (Nat.le_refl _) (by omega))] at this
     cases this
   obtain ⟨hin, o, v, ho, hy, hK⟩ := hall i hi'.1 hi'.2
   obtain ⟨e1, e2, e3⟩ := Oper.apart_spec ((hap i hin).2 o ho)
   refine wpOp_of_YP (.inr rfl) ho (hy.put (fun cs b => hsel i o cs b ho) e3) ?_
   rw [Array.setIfInBounds_comm _ _ (Ne.symm hi'.2), ← Act.put_comm a v vf e2]
   exact (ih _ _ (inv.set hi'.1 hin) hK).2
  refine ⟨?_, h2'⟩
  rw [show k + 1 + 3 = (k + 3) + 1 by omega]
  refine ⟨fun h0 => (by rw [h0] at hi0; cases hi0), fun i hi => ?_⟩
  by_cases hif : i = n + 1
  ·subst hif
   unfold wpOp
   simp only [hf, hwf, if_true]
   left
   unfold Oper.wp
   rw [hrun]
   simp only [Oper.upon]
   exact h2'
  ·obtain ⟨hin, o, v, ho, hy, hK⟩ := hall i hi hif
   exact wpOp_of_YP (.inl rfl) ho hy (ih _ _ (inv.set hi hin) hK).1
end
/-- The head, then the call, the box and the store: the box may be laid ahead of the call, or behind it. -/
theorem wp_region_float {P : Program} {id : Nat} {Q : Exit → Act → World → Prop} {a : Act} {w w2 : World} {vf : Value} {l : List Oper} (n : Nat) {oc of os : Oper} (hm : P.follows .mixedOrders = true) (hB : floatB .any l.toArray n = true) (hd : l.drop n = [oc, of, os])
  (hwf : ∀ y, Region.wanted of y = true) (hrun : ∀ a : Act, (execOp a.eval of).run P w.drew = .ok (.value vf) w2)
  (h : wpTwo P l.toArray w.drew w2 (fun a' => wpList P l.toArray Q [oc, of, os] a' w.drew ∧ wpList P l.toArray Q [oc, os] (a'.put of.dst vf) w2) (l.take n) a) : (Code.region id l.toArray true).wp P Q a w := by
 simp only [floatB, Bool.and_eq_true, decide_eq_true_eq, Bool.not_eq_true'] at hB
 obtain ⟨⟨⟨⟨⟨⟨hsel, hz⟩, hs⟩, hl⟩, hc⟩, hap⟩, hlex⟩ := hB
 have hz' : l.length = n + 3 := by simpa using hz
 have htl : (l.take n).length = n := by rw [List.length_take]; omega
 have at_ : ∀ j o, [oc, of, os][j]? = some o → l.toArray[n + j]? = some o := fun j o hj => by
  rw [← hd, List.getElem?_drop] at hj
  simpa using hj
 have hoc := at_ 0 oc rfl
 have hof := at_ 1 of rfl
 have hos := at_ 2 os rfl
 have hap' : ∀ i, i < n → Region.waitsFor .any l.toArray i (n + 1) = false ∧ ∀ o, l.toArray[i]? = some o → o.apart l.toArray of = true := fun i hi => by
  have := List.all_eq_true.1 hap i (List.mem_range.2 hi)
  simp only [Bool.and_eq_true, Bool.not_eq_true'] at this
  refine ⟨this.1, fun o ho => ?_⟩
  have h2 := this.2
  rw [ho, hof] at h2
  exact h2
 have inv0 : HeadInv .any l.toArray n (Array.replicate l.toArray.size false) :=
  ⟨by simp, fun j oj _ hl => (by rw [getD_replicate_false] at hl; cases hl), fun t _ ht => getD_in (by simpa using ht) (getD_replicate_false _ _)⟩
 have H := headF_lex (md := .any) (w1 := w.drew) (w2 := w2) hsel hs hl hz (l.take n) 0 _ a (fun j hj => by rw [htl] at hj; simp [hj]) (by simpa using htl) inv0 (by rw [htl]; exact hlex) h
 refine wp_region_any hm ?_
 have key : ∀ (i : Nat) (o : Oper) (K : Act → World → Prop) (rest : List Oper) (b : Act) (W : World), l.toArray[i]? = some o → wpList P l.toArray Q (o :: rest) b W → (∀ b' W', wpList P l.toArray Q rest b' W' → K b' W') → wpOp P l.toArray Q i K b W := fun i o K rest b W ho hw hK => by
  refine wpOp_mono hK ?_
  unfold wpOp
  simp only [ho]
  exact hw
 have R := (float_run (md := .any) (Q := Q) hof hwf hrun (Region.noSelect_spec hsel) hs hl hc hz hap'
  (fun listed b hL => by
   have hE := hL.1
   simp only [endB, Bool.and_eq_true, decide_eq_true_eq] at hE
   obtain ⟨⟨⟨⟨e1, e2⟩, e3⟩, e4⟩, e5⟩ := hE
   refine ⟨fun h0 => (by rw [h0] at e1; cases e1), fun i hi => ?_⟩
   rw [e1] at hi
   rcases (show i = n ∨ i = n + 1 by simpa using hi) with rfl | rfl
   ·refine key i oc _ _ b _ hoc hL.2.1 fun b' W' hb => ?_
    exact wpAny_of_seq (md := .any) (Q' := Q) [of, os] (i + 1) _ b' W' (fun j => by
     rcases j with _ | _ | j
     ·exact hof.symm
     ·exact hos.symm
     ·rw [Array.getElem?_eq_none (by omega)]; rfl) e2 hb
   ·unfold wpOp
    simp only [hof, hwf, if_true]
    left
    unfold Oper.wp
    rw [hrun]
    simp only [Oper.upon]
    refine ⟨fun h0 => (by rw [h0] at e3; cases e3), fun i hi => ?_⟩
    rw [e3] at hi
    obtain rfl : i = n := by simpa using hi
    refine key i oc _ _ _ _ hoc hL.2.2 fun b' W' hb => ?_
    refine ⟨fun h0 => (by rw [h0] at e4; cases e4), fun j hj => ?_⟩
    rw [e4] at hj
    obtain rfl : j = i + 2 := by simpa using hj
    exact key (i + 2) os _ _ _ _ hos hb fun b'' W'' hb' => ⟨e5, hb'⟩)
  (fun listed b hL => by
   have hE := hL.1
   simp only [endB, Bool.and_eq_true, decide_eq_true_eq] at hE
   obtain ⟨⟨⟨⟨e1, e2⟩, e3⟩, e4⟩, e5⟩ := hE
   refine ⟨fun h0 => (by rw [h0] at e3; cases e3), fun i hi => ?_⟩
   rw [e3] at hi
   obtain rfl : i = n := by simpa using hi
   refine key i oc _ _ _ _ hoc hL.2.2 fun b' W' hb => ?_
   refine ⟨fun h0 => (by rw [h0] at e4; cases e4), fun j hj => ?_⟩
   rw [e4] at hj
   obtain rfl : j = i + 2 := by simpa using hj
   exact key (i + 2) os _ _ _ _ hos hb fun b'' W'' hb' => ⟨e5, hb'⟩)
  _ _ _ inv0 H).1
 rw [htl, ← hz] at R
 exact R
end Go.Proofs.YtmfpbahifhndjaaGreat
/-! Layer 8: fits, field, one, joined. -/
namespace Go.Proofs.YtmfpbahifhndjaaGreat
open Go.RowKit
theorem fitsL_all (n : Int) : ∀ l : List Ex, fitsL n l = l.all (fitsE n)
 | [] => rfl
 | x :: l => by simp only [fitsL, List.all_cons, fitsL_all n l]
theorem nfits_any (l : Lt) (n : Nat) (w : World) (hl : okLt l) (h1 : 1 ≤ n) (h2 : n ≤ 128) : Calls Tryz.prog 46 #[.agg #[.int .u64 l.2.1, .int .u64 l.2.2], .int .i64 (n : Int)] w fun e w' => e = .returned (.bool (fitsB (n : Int) l)) ∧ Below w.heap.size w w' := by
 refine (fits_any l.2.1 l.2.2 n w h1 h2).mono ?_
 rintro e w' ⟨rfl, hb⟩
 exact ⟨ret_b (fits_eq l n hl h1 h2), hb⟩
theorem stop_all {α : Type} {p : α → Bool} {l : List α} {k : Nat} (hk : k < l.length) (h : p l[k] = false) : l.all p = false := by
 rw [List.all_eq_false]; exact ⟨_, List.getElem_mem hk, by simp [h]⟩
theorem next_all {α : Type} {p : α → Bool} {l : List α} {k : Nat} (hk : k < l.length) (h : (l.take k).all p = true) (hp : p l[k] = true) : (l.take (k + 1)).all p = true := by
 rw [List.take_succ_eq_append_getElem hk, List.all_append, h]; simp [hp]
set_option maxRecDepth 100000 in
set_option maxHeartbeats 4000000 in
theorem tfits_any (n : Nat) (h1 : 1 ≤ n) (h2 : n ≤ 128) (e : Ex) : ∀ (cs : List Value) (w : World) (B : Nat), B ≤ w.heap.size → rEx w B cs e →
  Calls Tryz.prog 124 #[.agg cs.toArray, .int .i64 (n : Int)] w fun r w' => r = .returned (.bool (fitsE n e)) ∧ Below w.heap.size w w' := by
 induction e using Ex.ind with
 | h op lit head name hi lo args ih =>
  intro cs w B hB h
  obtain ⟨A, cap, rfl, -, hlit, -, -, -, -, hs⟩ := RE.inv h
  have hl := hs.len
  replace ih := hide ih
  clear h
  show Calls _ _ #[.agg #[.int .u8 op, .int .i64 lit.1, .int .u64 lit.2.1, .int .u64 lit.2.2, .string head, .string name, .int .i64 hi, .int .i64 lo, .slice A args.length cap], _] _ _
  obtain ⟨wb, hwb, hsb, hbb, hcb, -⟩ := box1 w #[.int .u8 op, .int .i64 lit.1, .int .u64 lit.2.1, .int .u64 lit.2.2, .string head, .string name, .int .i64 hi, .int .i64 lo, .slice A args.length cap] 65
  obtain ⟨y0, y1, y2, y3, y4, y5, y6, y7, y8⟩ := row9 hcb
  have hS := hide (hs.below sta_ex (hbb.mono hB))
  have hv := hide (show fitsE n (.mk op lit head name hi lo args) = if op = 1 then fitsB n lit else args.all (fitsE n) from by simp only [fitsE, fitsL_all])
  have hF := hide (nfits_any lit n wb hlit h1 h2)
  have hb0 : Below wb.heap.size wb wb := Below.refl _ _
  have hBk := hide (show ∀ W, Below wb.heap.size wb W → Below w.heap.size w W from fun W hb => hbb.trans (hb.mono (by omega)))
  have hl1 : w.heap.size < wb.heap.size := by omega
  have hBw : B ≤ wb.heap.size := by omega
  clear hcb hs hbb
  replace hsb := hide hsb
  by_cases ho : op = 1
  ·replace hv := hide (hv.out.trans (if_pos ho))
   subst ho
   clear hb0
   go_enter Tryz.func124, Tryz.ntmps124
   go_wp2_with (go_at_call 46; refine hF.out.mono ?_; rintro e w1 ⟨rfl, hw1⟩)
   go_ret
   exact ⟨ret_b hv.out.symm, hBk.out _ hw1⟩
  ·replace hv := hide (hv.out.trans (if_neg ho))
   have hs0 := hide hb0
   have hoq : (op == 1) = false := beq_eq_false_iff_ne.2 ho
   clear hF hb0
   go_enter Tryz.func124, Tryz.ntmps124
   go_wp2
   go_loopw [18] (fun i wr => ∃ k : Nat, k ≤ args.length ∧ i = .int .i64 k ∧ Hid ((args.take k).all (fitsE n) = true) ∧ Hid (Below wb.heap.size wb wr)) (fun i _ => args.length - (intOf i).toNat)
   case atStart => exact ⟨0, Nat.zero_le _, rfl, hide (by simp), hs0⟩
   case round =>
    clear hs0
    obtain ⟨k, hk, rfl, ht, hbr⟩ := hrel
    have hzr := hbr.out.size
    have hc := bcell' hbr.out
    by_cases hlt : k < args.length
    ·obtain ⟨b, o, ecs, hA, hb, hel, hcell, hr⟩ := hS.out.2 k _ (List.getElem?_eq_getElem hlt)
     subst hA
     have hltz : (k : Int) < (args.length : Int) := by omega
     have hX0 := fun (W : World) (hW : Below wb.heap.size wb W) => ih.out _ (List.getElem_mem hlt) ecs W B (by have := hW.size; omega) (sta_ex.keep hr fun q hq => (hW.mono hBw).cell hq)
     have hst := hide (fun h => stop_all (p := fitsE n) hlt h)
     have hnx := hide (fun h => next_all (p := fitsE n) hlt ht.out h)
     generalize fitsE n args[k] = t at hX0 hst hnx
     generalize args[k] = x at hr
     obtain ⟨op', lit', head', name', hi', lo', args'⟩ := x
     obtain ⟨A', cap', rfl, -, -, -, -, -, -, hs'⟩ := RE.inv hr
     have hl' := hs'.len
     obtain ⟨x0, x1, x2, x3, x4, x5, x6, x7, x8⟩ := srow9 hcell
     obtain ⟨wx, hwx, hzx, hbx, hcx, -⟩ := box1 wr #[.int .u8 op', .int .i64 lit'.1, .int .u64 lit'.2.1, .int .u64 lit'.2.2, .string head', .string name', .int .i64 hi', .int .i64 lo', .slice A' args'.length cap'] 65
     obtain ⟨u0, u1, u2, u3, u4, u5, u6, u7, u8⟩ := row9 hcx
     have hbX := hbr.out.trans (hbx.mono hzr)
     have hX : Hid (Calls Tryz.prog 124 #[.agg #[.int .u8 op', .int .i64 lit'.1, .int .u64 lit'.2.1, .int .u64 lit'.2.2, .string head', .string name', .int .i64 hi', .int .i64 lo', .slice A' args'.length cap'], .int .i64 (n : Int)] wx _) := hide (hX0 wx hbX)
     have hb' : b < wb.heap.size := by omega
     replace hbX := hide hbX
     clear hcell hr hX0 hs' hel hcx hbx
     cases t with
     | true =>
      have hres := hide (hnx.out rfl)
      clear hnx hst
      go_wp2_with (go_at_call 124; refine hX.out.mono ?_; rintro e w1 ⟨rfl, hw1⟩)
      go_roundw
      case rel => exact ⟨k + 1, by omega, by go_num, hres, hide (hbX.out.trans (hw1.mono (by have := hbX.out.size; omega)))⟩
      case measure => simp [intOf]; omega
     | false =>
      have hres := hide (hst.out rfl)
      clear hnx hst
      go_wp2_with (go_at_call 124; refine hX.out.mono ?_; rintro e w1 ⟨rfl, hw1⟩)
      go_ret
      exact ⟨ret_b (hv.out.trans hres.out).symm, hBk.out _ (hbX.out.trans (hw1.mono (by have := hbX.out.size; omega)))⟩
    ·have hfull := hide (show args.all (fitsE n) = true from by rw [← ht.out, List.take_of_length_le (by omega)])
     go_wp2
     go_ret
     exact ⟨ret_b (hv.out.trans hfull.out).symm, hBk.out _ hbr.out⟩
end Go.Proofs.YtmfpbahifhndjaaGreat

import Derived.Test.YtbjokgnnklcbcaaGreatDoorTpb12
import Derived.Test.YtbjokgnnklcbcaaGreatDoorTpb14
import Derived.Test.YtbjokgnnklcbcaaGreatDoorTpb03
import Derived.StillTailTactics
import Derived.Deep.Quiet
import Derived.Test.YtbjokgnnklcbcaaGreatDoorTpb04
import Derived.Deep.DeepCutAuto
set_option linter.all false
/-! Layer 3: rows of tokens; what Lex holds. -/
namespace Go.Proofs.YtbjokgnnklcbcaaGreatDoor
open Go.RowKit
def tkV (t : Tk) : List Value := tkC t.kind ⟨t.s.toArray⟩ t.w t.n t.pl
theorem tkV_len (t : Tk) : (tkV t).length = 6 := rfl
theorem tkV_one (t : Tk) : ∀ u ∈ tkV t, u.oneCell' = true := fun u hu => by simp [tkV, tkC] at hu; rcases hu with rfl | rfl | rfl | rfl | rfl | rfl <;> rfl
theorem tok_info : (Tryz.prog.info? 64).map (fun i => (i.zero, i.size, i.bytes)) = some (some (.agg #[.int .u8 0, .string ⟨#[]⟩, .int .i64 0, .int .u64 0, .int .u64 0, .int .i64 0]), 6, 56) := by kernel_rfl
/-- Tokens in a row of the call's own. -/
def TkS (w : World) (base : Nat) (v : Value) (l : List Tk) : Prop := w.ownsRow base 64 6 v l.length (l.flatMap tkV)
theorem TkS.nil_ (w : World) (base : Nat) : TkS w base (.slice none 0 0) [] := World.ownsRow_nil _ _ _ _
theorem TkS.below {w w' : World} {base C : Nat} {v : Value} {l : List Tk} (h : TkS w base v l) (hb : Below C w w') (hC : w.heap.size ≤ C) : TkS w' base v l := own_belowR h hb hC
theorem TkS.set {w : World} {base k i : Nat} {v u : Value} {l : List Tk} (h : TkS w base v l) (hk : k < base) : TkS (w.setCell ⟨k, i, none⟩ u) base v l := by
 refine ⟨h.1, ?_⟩
 rcases h.2 with h2 | ⟨g, cap, cur, rfl, hg, hh, r⟩
 ·exact .inl h2
 ·exact .inr ⟨g, cap, cur, rfl, hg, (Below.heap_setCell _ _ _ _ (show g ≠ k by omega)).trans hh, r⟩
theorem TkS.form {w : World} {base : Nat} {v : Value} {l : List Tk} (h : TkS w base v l) : ∃ A cap, v = .slice A l.length cap := by
 rcases h.2 with ⟨rfl, hz⟩ | ⟨g, cap, cur, rfl, _⟩
 ·exact ⟨none, 0, by rw [hz]⟩
 ·exact ⟨_, _, rfl⟩
/-- append of a token. -/
theorem append_t {W : World} {base : Nat} {v : Value} {l : List Tk} (x : Tk) (hd : TkS W base v l) (hb : base ≤ W.heap.size) (hz : l.length ≤ bigI) :
  ∃ v' w', (AppG #[45, 45] 45 #[v, .slice (some ⟨W.heap.size, 0, none⟩) 1 1]).run Tryz.prog (W.alloc (.cells (tkV x).toArray 64)) = .ok v' w' ∧ TkS w' base v' (l ++ [x]) ∧ Below base W w' ∧ ∀ k, k < W.heap.size → some k ≠ v.ownBlock → w'.heap[k]? = W.heap[k]? := by
 unfold bigI at hz
 obtain ⟨ii, hii, hzi0, hzi1, hzi2⟩ := info_parts tok_info
 obtain ⟨v', w', hrun, h2, h3, _, _⟩ := run_append_own_at (P := Tryz.prog) (W.alloc (.cells (tkV x).toArray 64)) base 45 45 64 ii _ 6 56 Tryz.underlying45 hii hzi0 hzi1 hzi2 rfl (by omega) v l.length _ (World.ownsRow.alloc hd _) ⟨W.heap.size, 0, none⟩ 1 1 (tkV x) rfl (World.news_of_block (cs := (tkV x).toArray) (t := 64) (fr := (0, 0)) (heap_alloc_new W _)) (tkV_one x) (by simp [maxLen]; omega) (by omega) (by simp; omega)
 refine ⟨v', w', hrun, ?_, (((Below.refl _ _).alloc hb _).grown h3 (by simp; omega) (fun g e => (hd.lt g e).1)), fun k hk hne => ?_⟩
 ·unfold TkS
  simpa using h2
 ·rw [h3.block k (by simp; omega) hne]
  exact ((Below.refl W.heap.size W).alloc (Nat.le_refl _) _).block k hk
def rTk : CR Tk := fun _ _ cs t => cs = tkV t
theorem sta_tk : Sta rTk := ⟨fun h _ => h, fun h _ => h⟩
theorem TkS.sl {w : World} {base : Nat} {v : Value} {l : List Tk} (h : TkS w base v l) : ∃ A cap, v = .slice A l.length cap ∧ Sl 6 rTk w w.heap.size A l :=
 own_sl (f := tkV) tkV_len (fun x _ => rfl) h
/-- What Lex holds: the text, the tokens, the fault, the place. -/
structure LexB (W : World) (b : Nat) (s : ByteArray) (k : Nat) (v : Value) : Prop where
 lt : b + 3 < W.heap.size
 c0 : W.cell? ⟨b, 0, none⟩ = some (.string s)
 c1 : W.cell? ⟨b + 1, 0, none⟩ = some v
 e0 : W.cell? ⟨b + 2, 0, none⟩ = some (.int .i64 0)
 e1 : W.cell? ⟨b + 2, 1, none⟩ = some (.int .i64 0)
 e2 : W.cell? ⟨b + 2, 2, none⟩ = some (.int .i64 0)
 c3 : W.cell? ⟨b + 3, 0, none⟩ = some (.int .i64 (k : Int))
 f1 : W.frozen? ⟨b + 1, 0, none⟩ = false
 g0 : W.frozen? ⟨b + 2, 0, none⟩ = false
 g1 : W.frozen? ⟨b + 2, 1, none⟩ = false
 g2 : W.frozen? ⟨b + 2, 2, none⟩ = false
 f3 : W.frozen? ⟨b + 3, 0, none⟩ = false
theorem LexB.below {W W' : World} {b B k : Nat} {s : ByteArray} {v : Value} (h : LexB W b s k v) (hb : Below B W W') (hB : b + 3 < B) : LexB W' b s k v := by
 have kk := bcell' hb
 exact ⟨Nat.lt_of_lt_of_le h.lt hb.size, (kk.1 b 0 (by omega)).trans h.c0, (kk.1 (b + 1) 0 (by omega)).trans h.c1, (kk.1 (b + 2) 0 (by omega)).trans h.e0, (kk.1 (b + 2) 1 (by omega)).trans h.e1, (kk.1 (b + 2) 2 (by omega)).trans h.e2, (kk.1 (b + 3) 0 (by omega)).trans h.c3, (kk.2 (b + 1) 0 (by omega)).trans h.f1, (kk.2 (b + 2) 0 (by omega)).trans h.g0, (kk.2 (b + 2) 1 (by omega)).trans h.g1, (kk.2 (b + 2) 2 (by omega)).trans h.g2, (kk.2 (b + 3) 0 (by omega)).trans h.f3⟩
theorem LexB.setK {W : World} {b k : Nat} {s : ByteArray} {v : Value} (h : LexB W b s k v) (k' : Nat) : LexB (W.setCell ⟨b + 3, 0, none⟩ (.int .i64 (k' : Int))) b s k' v := by
 obtain ⟨lt, c0, c1, e0, e1, e2, c3, f1, g0, g1, g2, f3⟩ := h
 refine ⟨by rw [setCell_size]; exact lt, ?_, ?_, ?_, ?_, ?_, ?_, ?_, ?_, ?_, ?_, ?_⟩ <;> simp [go_sem, c0, c1, e0, e1, e2, c3, f1, g0, g1, g2, f3]
theorem LexB.setV {W : World} {b k : Nat} {s : ByteArray} {v : Value} (h : LexB W b s k v) (v' : Value) : LexB (W.setCell ⟨b + 1, 0, none⟩ v') b s k v' := by
 obtain ⟨lt, c0, c1, e0, e1, e2, c3, f1, g0, g1, g2, f3⟩ := h
 refine ⟨by rw [setCell_size]; exact lt, ?_, ?_, ?_, ?_, ?_, ?_, ?_, ?_, ?_, ?_, ?_⟩ <;> simp [go_sem, c0, c1, e0, e1, e2, c3, f1, g0, g1, g2, f3]
/-- The place that Lex holds. -/
def kOf (b : Nat) (W : World) : Nat := match W.cell? ⟨b + 3, 0, none⟩ with | some v => (intOf v).toNat | none => 0
theorem LexB.kOf {W : World} {b k : Nat} {s : ByteArray} {v : Value} (h : LexB W b s k v) : kOf b W = k := by
 unfold YtbjokgnnklcbcaaGreatDoor.kOf
 rw [h.c3]; rfl
end Go.Proofs.YtbjokgnnklcbcaaGreatDoor
/-! Layer 3: a token's cells. -/
namespace Go.Proofs.YtbjokgnnklcbcaaGreatDoor
open Go.RowKit
theorem Sl.tok {w : World} {B : Nat} {A : Option Addr} {xs : List Tk} (h : Sl 6 rTk w B A xs) {i : Nat} (hi : i < xs.length) : ∃ b o, A = some ⟨b, o, none⟩ ∧ b < B ∧
  w.cell? ⟨b, o + i * 6, none⟩ = some (.int .u8 (xs[i].kind : Int)) ∧ w.cell? ⟨b, o + i * 6 + 1, none⟩ = some (.string ⟨xs[i].s.toArray⟩) ∧ w.cell? ⟨b, o + i * 6 + 2, none⟩ = some (.int .i64 (xs[i].w : Int)) ∧ w.cell? ⟨b, o + i * 6 + 3, none⟩ = some (.int .u64 ((xs[i].n / 18446744073709551616 : Nat) : Int)) ∧ w.cell? ⟨b, o + i * 6 + 4, none⟩ = some (.int .u64 ((xs[i].n % 18446744073709551616 : Nat) : Int)) ∧ w.cell? ⟨b, o + i * 6 + 5, none⟩ = some (.int .i64 (xs[i].pl : Int)) := by
 obtain ⟨b, o, cs, hA, hb, -, hc, hR⟩ := h.2 i _ (List.getElem?_eq_getElem hi)
 have hR' : cs = tkV xs[i] := hR
 subst hR'
 refine ⟨b, o, hA, hb, by simpa using hc 0 _ rfl, hc 1 _ rfl, hc 2 _ rfl, hc 3 _ rfl, hc 4 _ rfl, hc 5 _ rfl⟩
end Go.Proofs.YtbjokgnnklcbcaaGreatDoor
/-! A region that draws its order: a head that only reads or calls, in whatever world has grown, and a tail in one forced order, which may write, or panic. -/
namespace Go.Proofs.YtbjokgnnklcbcaaGreatDoor
open Go Go.RowKit
section
variable {P : Program} {ops : Array Oper} {md : Region.Mode} {C : World → Prop}
/-- Whatever order the head takes. -/
def headQ (P : Program) (md : Region.Mode) (ops : Array Oper) (C : World → Prop) (n : Nat) (L : Array Bool → Act → Prop) : Nat → Array Bool → Act → Prop
 | 0, listed, a => L listed a
 | f + 1, listed, a => Region.ready md ops listed ≠ [] ∧ ∀ i ∈ Region.ready md ops listed, i < n ∧ qOp P ops C i (headQ P md ops C n L f (listed.setIfInBounds i true)) a
theorem wpAny_of_headQ {n g : Nat} {L : Array Bool → Act → Prop} {Q : Exit → Act → World → Prop} (hL : ∀ listed a w, C w → L listed a → wpAny P md ops Q g listed a w) :
  ∀ (f : Nat) (listed : Array Bool) (a : Act) (w : World), C w → headQ P md ops C n L f listed a → wpAny P md ops Q (f + g) listed a w
 | 0, listed, a, w, hw, h => by rw [Nat.zero_add]; exact hL _ _ _ hw h
 | f + 1, listed, a, w, hw, h => by
  rw [Nat.add_right_comm]
  exact ⟨fun h0 => absurd h0 h.1, fun i hi => wpOp_of_qOp hw (fun a' w' hw' h' => wpAny_of_headQ hL f _ a' w' hw' h') (h.2 i hi).2⟩
theorem headQ_first {n i : Nat} {oi : Oper} {v : Value} {L : Array Bool → Act → Prop} (hi : ops[i]? = some oi) (hsel : ∀ (j : Nat) (o : Oper) cs b, ops[j]? = some o → o.op ≠ .select cs b)
  (hs : Region.sinkB md ops n = true) (hc : Region.chainB md ops n = true) (hn : n < ops.size) (hin : i < n) (hdone : ∀ listed a, L listed a → ∀ j ∈ Region.ready md ops listed, n ≤ j) :
  ∀ (f : Nat) (listed : Array Bool) (a : Act), HeadInv md ops n listed →
   (∀ j oj, ops[j]? = some oj → j ≠ i → listed.getD j true = false → (∀ e ∈ oj.after, Region.binds md e = true → e.on ≠ i) → oi.apart ops oj = true) →
   i ∈ Region.ready md ops listed → YieldsIn P ops C oi v a → headQ P md ops C n L f (listed.setIfInBounds i true) (a.put oi.dst v) → headQ P md ops C n L (f + 1) listed a := by
 intro f
 induction f with
 | zero =>
  intro listed a inv _ hr hy H
  refine ⟨fun h => (by rw [h] at hr; cases hr), fun j hj => ?_⟩
  have hjn : j < n := Nat.lt_of_not_le fun h => tail_waits hs hc hn inv _ i rfl hin (mem_ready.1 hr).1 j h hj
  by_cases e : j = i
  ·subst e; exact ⟨hjn, hy.qOp hi H⟩
  ·exact absurd (hdone _ _ H j (ready_mono hj e)) (by omega)
 | succ f ih =>
  intro listed a inv hfree hr hy H
  have hun := (mem_ready.1 hr).1
  refine ⟨fun h => (by rw [h] at hr; cases hr), fun j hj => ?_⟩
  have hjn : j < n := Nat.lt_of_not_le fun h => tail_waits hs hc hn inv _ i rfl hin hun j h hj
  by_cases e : j = i
  ·subst e; exact ⟨hjn, hy.qOp hi H⟩
  ·refine ⟨hjn, ?_⟩
   obtain ⟨hjun, oj, hoj, hall⟩ := mem_ready.1 hj
   have hnot : ∀ x ∈ oj.after, Region.binds md x = true → x.on ≠ i := fun x hx hb he => by
    have h1 := hall x hx hb
    rw [he, getD_both hun] at h1
    cases h1
   refine qOp_mono (fun a' h3 => ih _ a' (inv.set hj hjn) (fun k ok hk hki hu hno => hfree k ok hk hki ?_ hno) (ready_mono hr (Ne.symm e)) h3.1 ?_)
    (qOp_put hoj (hfree j oj hoj e hjun hnot) (fun cs b => hsel i oi cs b hi) (fun cs b => hsel j oj cs b hoj) hy (H.2 j (ready_mono hj e)).2)
   ·by_cases ejk : j = k
    ·subst ejk; exact hjun
    ·rw [getD_set_ne true ejk] at hu; exact hu
   ·rw [Array.setIfInBounds_comm _ _ e]
    exact h3.2
theorem headQ_lex {n g : Nat} {T : Act → Prop} (hsel : Region.noSelect ops = true) (hs : Region.sinkB md ops n = true) (hc : Region.chainB md ops n = true) (hn : n < ops.size) :
  ∀ (l : List Oper) (k : Nat) (listed : Array Bool) (a : Act), (∀ j, j < l.length → l[j]? = ops[k + j]?) → k + l.length = n → HeadInv md ops n listed → Region.lexHead md ops g l.length k listed = true → wpQuiet P ops C T l a →
   headQ P md ops C n (fun x y => Region.seqB md ops g n x = true ∧ T y) l.length listed a
 | [], k, listed, a, _, hk, _, hB, h => by
  obtain rfl : k = n := by simpa using hk
  exact ⟨by simpa [Region.lexHead] using hB, h⟩
 | o :: l, k, listed, a, hl, hk, inv, hB, h => by
  have h0 : ops[k]? = some o := by simpa using (hl 0 (by simp)).symm
  simp only [List.length_cons, Region.lexHead, Bool.and_eq_true] at hB
  rw [List.length_cons] at hk
  have hr : k ∈ Region.ready md ops listed := by simpa using hB.1.1
  obtain ⟨v, hy, hK⟩ := yieldsIn_of_qOp h0 (show qOp P ops C k (wpQuiet P ops C T l) a from by unfold qOp; simp only [h0]; exact h)
  exact headQ_first h0 (Region.noSelect_spec hsel) hs hc hn (by omega) (fun _ _ hL => seqB_ready hL.1) l.length listed a inv (Region.free_spec h0 hB.1.2) hr hy
   (headQ_lex hsel hs hc hn l (k + 1) _ _ (fun j hj => by have := hl (j + 1) (by simpa using hj); simpa [Nat.add_assoc, Nat.add_comm 1 j] using this) (by omega) (inv.set hr (by omega)) hB.2 hK)
end
/-- The first n operations read, or call what lays memory; the others follow in one order. -/
theorem wp_region_quiet_tail {P : Program} {id : Nat} {Q : Exit → Act → World → Prop} {a : Act} {w : World} {l : List Oper} (n : Nat) (hm : P.follows .mixedOrders = true) (hB : Region.lexTailB .any l.toArray n = true)
  (h : wpQuiet P l.toArray (fun w' => ∃ p : Regrown, w' = Go.Sort.grow (redrawn w p.d) p.os) (fun a' => ∀ w', Below w.heap.size w w' → wpList P l.toArray Q (l.drop n) a' w') (l.take n) a) : (Code.region id l.toArray true).wp P Q a w := by
 simp only [Region.lexTailB, Bool.and_eq_true, decide_eq_true_eq] at hB
 obtain ⟨⟨⟨⟨hsel, hn⟩, hs⟩, hc⟩, hlex⟩ := hB
 have htl : (l.take n).length = n := by simp at hn ⊢; omega
 have hdl : (l.drop n).length = l.toArray.size - n := by simp
 have inv0 : HeadInv .any l.toArray n (Array.replicate l.toArray.size false) :=
  ⟨by simp, fun j oj _ hl => (by rw [getD_replicate_false] at hl; cases hl), fun t _ ht => getD_in (by simpa using ht) (getD_replicate_false _ _)⟩
 refine wp_region_any hm ?_
 have H := headQ_lex (md := .any) (g := l.toArray.size - n) hsel hs hc hn (l.take n) 0 _ a (fun j hj => by rw [htl] at hj; simp [hj]) (by simpa using htl) inv0 (by rw [htl]; exact hlex) h
 have := wpAny_of_headQ (Q := Q) (g := l.toArray.size - n) (fun listed a' w' hw hL => by
  have := wpAny_of_seq (md := .any) (Q' := Q) (l.drop n) n listed a' w' (fun j => by simp [List.getElem?_drop]) (by rw [hdl]; exact hL.1) (hL.2 w' (below_of_regrown hw))
  rwa [hdl] at this) _ _ _ { w with drawn := w.drawn + 1 } ⟨⟨w.drawn + 1, #[]⟩, by rw [Go.Sort.grow_empty]; rfl⟩ H
 rwa [htl, show n + (l.toArray.size - n) = l.toArray.size by omega] at this
end Go.Proofs.YtbjokgnnklcbcaaGreatDoor
/-! Layer 13: a reader; ask, is, next. -/
namespace Go.Proofs.YtbjokgnnklcbcaaGreatDoor
open Go.RowKit
attribute [local go_sem] run_panic_iface
/-- All is as it was, but for one block. -/
def Grg (g : Nat) (w w' : World) : Prop := w.grownBy w' (some g)
theorem Grg.refl (g : Nat) (w : World) : Grg g w w := ⟨rfl, rfl, rfl, Nat.le_refl _, fun _ _ _ => rfl⟩
theorem Grg.trans {g : Nat} {a b c : World} (h : Grg g a b) (h' : Grg g b c) : Grg g a c := ⟨h'.os.trans h.os, h'.tape.trans h.tape, h'.output.trans h.output, Nat.le_trans h.size h'.size, fun k hk hn => (h'.block k (Nat.lt_of_lt_of_le hk h.size) hn).trans (h.block k hk hn)⟩
theorem Grg.of {g : Nat} {a b : World} (h : Below a.heap.size a b) : Grg g a b := ⟨h.os, h.tape, h.output, h.size, fun k hk _ => h.block k hk⟩
theorem Grg.set (g : Nat) (w : World) (i : Nat) (v : Value) : Grg g w (w.setCell ⟨g, i, none⟩ v) := ⟨rfl, rfl, rfl, by simp, fun k _ hn => Below.heap_setCell w ⟨g, i, none⟩ v k (by show k ≠ g; intro e; subst e; exact hn rfl)⟩
theorem Grg.below {g B : Nat} {a b : World} (h : Grg g a b) (hB : B ≤ g) (hs : B ≤ a.heap.size) : Below B a b := ⟨h.os, h.tape, h.output, h.size, fun k hk => h.block k (Nat.lt_of_lt_of_le hk hs) (by simp; omega)⟩
theorem Grg.cell {g k i : Nat} {a b : World} (h : Grg g a b) (hk : k < a.heap.size) (hn : k ≠ g) : b.cell? ⟨k, i, none⟩ = a.cell? ⟨k, i, none⟩ := World.cell?_of_block (h.block k hk (by simp; exact hn))
theorem Grg.frozen {g k i : Nat} {a b : World} (h : Grg g a b) (hk : k < a.heap.size) (hn : k ≠ g) : b.frozen? ⟨k, i, none⟩ = a.frozen? ⟨k, i, none⟩ := World.frozen?_of_block (h.block k hk (by simp; exact hn))
/-- A reader: the tokens that are left; the network so far. -/
def RdB (w : World) (g : Nat) (l : List Tk) (v1 v2 v3 : Value) : Prop :=
 hasEnd l ∧ ∃ A cap, l.length ≤ cap ∧ cap ≤ maxLen ∧ w.heap[g]? = some (.cells #[.slice A l.length cap, v1, v2, v3] 54 (0, 0)) ∧ Sl 6 rTk w g A l
theorem RdB.lt {w : World} {g : Nat} {l : List Tk} {v1 v2 v3 : Value} (h : RdB w g l v1 v2 v3) : g < w.heap.size := by
 obtain ⟨-, A, cap, -, -, h, -⟩ := h
 exact (Array.getElem?_eq_some_iff.1 h).1
theorem RdB.below {w w' : World} {B g : Nat} {l : List Tk} {v1 v2 v3 : Value} (h : RdB w g l v1 v2 v3) (hb : Below B w w') (hB : g < B) : RdB w' g l v1 v2 v3 := by
 obtain ⟨h0, A, cap, h1, h2, h3, h4⟩ := h
 exact ⟨h0, A, cap, h1, h2, (hb.block g hB).trans h3, h4.keep sta_tk fun q hq => hb.cell (Nat.lt_trans hq hB)⟩
structure RdO (w : World) (g : Nat) (l : List Tk) (v1 v2 v3 : Value) (b o cap : Nat) : Prop where
 lt : g < w.heap.size
 bg : b < g
 pos : 0 < l.length
 le : l.length ≤ cap
 ml : cap ≤ 9223372036854775807
 c0 : w.cell? ⟨g, 0, none⟩ = some (.slice (some ⟨b, o, none⟩) l.length cap)
 c1 : w.cell? ⟨g, 1, none⟩ = some v1
 c2 : w.cell? ⟨g, 2, none⟩ = some v2
 c3 : w.cell? ⟨g, 3, none⟩ = some v3
 f0 : w.frozen? ⟨g, 0, none⟩ = false
 f1 : w.frozen? ⟨g, 1, none⟩ = false
 f2 : w.frozen? ⟨g, 2, none⟩ = false
 f3 : w.frozen? ⟨g, 3, none⟩ = false
 k0 : w.cell? ⟨b, o, none⟩ = some (.int .u8 ((headT l).kind : Int))
 k1 : w.cell? ⟨b, o + 1, none⟩ = some (.string ⟨(headT l).s.toArray⟩)
 k2 : w.cell? ⟨b, o + 2, none⟩ = some (.int .i64 ((headT l).w : Int))
 k3 : w.cell? ⟨b, o + 3, none⟩ = some (.int .u64 (((headT l).n / 18446744073709551616 : Nat) : Int))
 k4 : w.cell? ⟨b, o + 4, none⟩ = some (.int .u64 (((headT l).n % 18446744073709551616 : Nat) : Int))
 k5 : w.cell? ⟨b, o + 5, none⟩ = some (.int .i64 ((headT l).pl : Int))
theorem RdB.open_ {w : World} {g : Nat} {l : List Tk} {v1 v2 v3 : Value} (h : RdB w g l v1 v2 v3) : ∃ b o cap, RdO w g l v1 v2 v3 b o cap := by
 have hlt := h.lt
 obtain ⟨h0, A, cap, h1, h2, h3, h4⟩ := h
 have hp := List.length_pos_iff.2 h0.ne
 obtain ⟨b, o, rfl, hb, a0, a1, a2, a3, a4, a5⟩ := h4.tok hp
 have hh : l[0] = headT l := by
  cases l with
  | nil => simp at hp
  | cons a r => rfl
 rw [hh] at a0 a1 a2 a3 a4 a5
 refine ⟨b, o, cap, hlt, hb, hp, h1, h2, ?_, ?_, ?_, ?_, ?_, ?_, ?_, ?_, by simpa using a0, by simpa using a1, by simpa using a2, by simpa using a3, by simpa using a4, by simpa using a5⟩
 all_goals simp [World.cell?, World.frozen?, h3]
/-- A fault that a reader gives up by. -/
abbrev pwr (x : Int × Nat) : Ending := .panicked [{ v := .iface 49 (.agg #[.int .i64 x.1, .int .i64 (x.2 : Int)]), recovered := false }]
abbrev tkA (t : Tk) : Value := .agg #[.int .u8 (t.kind : Int), .string ⟨t.s.toArray⟩, .int .i64 (t.w : Int), .int .u64 ((t.n / 18446744073709551616 : Nat) : Int), .int .u64 ((t.n % 18446744073709551616 : Nat) : Int), .int .i64 (t.pl : Int)]
theorem tbox13 (W : World) (c0 c2 c3 c4 c5 : Int) (s : ByteArray) : ∃ wa, W.alloc (.cells #[.int .u8 c0, .string s, .int .i64 c2, .int .u64 c3, .int .u64 c4, .int .i64 c5] 64) = wa ∧ Hid (Below W.heap.size W wa) ∧ Hid (wa.heap.size = W.heap.size + 1) ∧ W.heap.size < wa.heap.size ∧ wa.cell? ⟨W.heap.size, 0, none⟩ = some (.int .u8 c0) ∧ wa.cell? ⟨W.heap.size, 1, none⟩ = some (.string s) ∧ wa.cell? ⟨W.heap.size, 2, none⟩ = some (.int .i64 c2) ∧ wa.cell? ⟨W.heap.size, 3, none⟩ = some (.int .u64 c3) ∧ wa.cell? ⟨W.heap.size, 4, none⟩ = some (.int .u64 c4) ∧ wa.cell? ⟨W.heap.size, 5, none⟩ = some (.int .i64 c5) := by
 obtain ⟨wa, hwa, hsa, hba, hca, hfa⟩ := box1 W #[.int .u8 c0, .string s, .int .i64 c2, .int .u64 c3, .int .u64 c4, .int .i64 c5] 64
 exact ⟨wa, hwa, hide hba, hide hsa, by omega, hca 0, hca 1, hca 2, hca 3, hca 4, hca 5⟩
set_option maxHeartbeats 1000000 in
theorem ask_yes13 (t : Tk) (n : Int) (w : World) : Calls Tryz.prog 47 #[.bool true, tkA t, .int .i64 n] w fun e w' => e = .returned (.tuple #[]) ∧ Below w.heap.size w w' := by
 go_enter Tryz.func47, Tryz.ntmps47
 go_wp2
 first | (go_end0; exact ⟨rfl, (Below.refl _ _).alloc (Nat.le_refl _) _⟩) | skip
set_option maxHeartbeats 1000000 in
theorem ask_no13 (t : Tk) (n : Int) (w : World) : Calls Tryz.prog 47 #[.bool false, tkA t, .int .i64 n] w fun e w' => e = pwr (n, t.pl) ∧ Below w.heap.size w w' := by
 obtain ⟨k, s, wd, m, pl⟩ := t
 unfold tkA
 simp only
 generalize ((m / 18446744073709551616 : Nat) : Int) = hi
 generalize ((m % 18446744073709551616 : Nat) : Int) = lo
 obtain ⟨wa, hwa, hba, hsa, hl, x0, x1, x2, x3, x4, x5⟩ := tbox13 w k wd hi lo pl ⟨s.toArray⟩
 go_enter Tryz.func47, Tryz.ntmps47
 go_wp2
 exact ⟨rfl, rfl, hba.out⟩
theorem ask13 (b : Bool) (t : Tk) (n : Int) (w : World) : Calls Tryz.prog 47 #[.bool b, tkA t, .int .i64 n] w fun e w' => e = (if b then .returned (.tuple #[]) else pwr (n, t.pl)) ∧ Below w.heap.size w w' := by
 cases b with
 | true => exact ask_yes13 t n w
 | false => exact ask_no13 t n w
set_option maxRecDepth 100000 in
set_option maxHeartbeats 2000000 in
theorem is13 (x : ByteArray) {w : World} {g : Nat} {l : List Tk} {v1 v2 v3 : Value} (h : RdB w g l v1 v2 v3) : Calls Tryz.prog 46 #[.pointer (some ⟨g, 0, none⟩), .string x] w fun e w' => e = .returned (.bool (isT x.data.toList l)) ∧ Below w.heap.size w w' := by
 obtain ⟨b, o, cap, lt, bg, pos, le, ml, c0, c1, c2, c3, f0, f1, f2, f3, k0, k1, k2, k3, k4, k5⟩ := h.open_
 have hv := hide (show isT x.data.toList l = ((headT l).s == x.data.toList && ((headT l).kind == 3 || (headT l).kind == 1)) from rfl)
 generalize isT x.data.toList l = RES at hv ⊢
 clear h
 have hbl : b < w.heap.size := by omega
 have lz : (0 : Int) < (l.length : Int) := by omega
 generalize headT l = t at k0 k1 k2 k3 k4 k5 hv
 obtain ⟨k, s, wd, m, pl⟩ := t
 simp only at k0 k1 k2 k3 k4 k5 hv
 obtain ⟨S, hS⟩ : ∃ S : ByteArray, S = ⟨s.toArray⟩ := ⟨_, rfl⟩
 have hsS : s = S.data.toList := by rw [hS]
 rw [← hS] at k1
 rw [hsS] at hv
 clear hS hsS
 obtain ⟨wa, hwa, hba, hsa, hl, x0, x1, x2, x3, x4, x5⟩ := tbox13 w k wd ((m : Int) / 18446744073709551616) ((m : Int) % 18446744073709551616) pl S
 have hr : RES = (decide (S = x) && (decide (k = 3) || decide (k = 1))) := by
  rw [hv.out]
  congr 1
  rw [Bool.eq_iff_iff, beq_iff_eq, decide_eq_true_eq]
  exact ⟨fun e => Go.WideShapes.bytes_inj (by rw [e]), fun e => by rw [e]⟩
 replace hr := hide hr
 clear hv
 go_enter Tryz.func46, Tryz.ntmps46
 by_cases hs : S = x
 ·have hq := str_eq hs
  by_cases h3 : k = 3
  ·have e3 : ((k : Int) == 3) = true := by rw [beq_iff_eq]; omega
   have hf : RES = true := by rw [hr.out]; simp [hs, h3]
   clear hs h3
   subst hf
   go_wp2
   go_ret
   exact ⟨rfl, hba.out⟩
  ·have e3 : ((k : Int) == 3) = false := by rw [beq_eq_false_iff_ne]; omega
   by_cases h1 : k = 1
   ·have e1 : ((k : Int) == 1) = true := by rw [beq_iff_eq]; omega
    have hf : RES = true := by rw [hr.out]; simp [hs, h1]
    clear hs h3 h1
    subst hf
    go_wp2
    go_ret
    exact ⟨rfl, hba.out⟩
   ·have e1 : ((k : Int) == 1) = false := by rw [beq_eq_false_iff_ne]; omega
    have hf : RES = false := by rw [hr.out]; simp [h3, h1]
    clear hs h3 h1
    subst hf
    go_wp2
    go_ret
    exact ⟨rfl, hba.out⟩
 ·have hq := str_ne hs
  have hf : RES = false := by rw [hr.out]; simp [hs]
  clear hs
  subst hf
  go_wp2
  go_ret
  exact ⟨rfl, hba.out⟩
end Go.Proofs.YtbjokgnnklcbcaaGreatDoor

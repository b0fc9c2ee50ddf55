import Derived.Test.YtmapiiclmmmpbaaGreatDoorTkb13
import Derived.Test.YtmapiiclmmmpbaaGreatDoorTkb16
import Derived.Defers
import Derived.Recover
import Derived.StillTailTactics
import Derived.Test.YtmapiiclmmmpbaaGreatDoorTkb02
import Derived.Deep.Quiet
set_option linter.all false
/-! Layer 3: rows of tokens; what Lex holds. -/
namespace Go.Proofs.YtmapiiclmmmpbaaGreatDoor
open Go.RowKit
def tkV (t : Tk) : List Value := tkC t.kind ⟨t.s.toArray⟩ t.w t.n t.pl
theorem tkV_len (t : Tk) : (tkV t).length = 6 := rfl
theorem tkV_one (t : Tk) : ∀ u ∈ tkV t, u.oneCell' = true := fun u hu => by simp [tkV, tkC] at hu; rcases hu with rfl | rfl | rfl | rfl | rfl | rfl <;> rfl
theorem tok_info : (Tryz.prog.info? 37).map (fun i => (i.zero, i.size, i.bytes)) = some (some (.agg #[.int .u8 0, .string ⟨#[]⟩, .int .i64 0, .int .u64 0, .int .u64 0, .int .i64 0]), 6, 56) := by kernel_rfl
/-- Tokens in a row of the call's own. -/
def TkS (w : World) (base : Nat) (v : Value) (l : List Tk) : Prop := w.ownsRow base 37 6 v l.length (l.flatMap tkV)
theorem TkS.nil_ (w : World) (base : Nat) : TkS w base (.slice none 0 0) [] := World.ownsRow_nil _ _ _ _
theorem TkS.below {w w' : World} {base C : Nat} {v : Value} {l : List Tk} (h : TkS w base v l) (hb : Below C w w') (hC : w.heap.size ≤ C) : TkS w' base v l := own_belowR h hb hC
theorem TkS.set {w : World} {base k i : Nat} {v u : Value} {l : List Tk} (h : TkS w base v l) (hk : k < base) : TkS (w.setCell ⟨k, i, none⟩ u) base v l := by
 refine ⟨h.1, ?_⟩
 rcases h.2 with h2 | ⟨g, cap, cur, rfl, hg, hh, r⟩
 ·exact .inl h2
 ·exact .inr ⟨g, cap, cur, rfl, hg, (Below.heap_setCell _ _ _ _ (show g ≠ k by omega)).trans hh, r⟩
theorem TkS.form {w : World} {base : Nat} {v : Value} {l : List Tk} (h : TkS w base v l) : ∃ A cap, v = .slice A l.length cap := by
 rcases h.2 with ⟨rfl, hz⟩ | ⟨g, cap, cur, rfl, _⟩
 ·exact ⟨none, 0, by rw [hz]⟩
 ·exact ⟨_, _, rfl⟩
/-- append of a token. -/
theorem append_t {W : World} {base : Nat} {v : Value} {l : List Tk} (x : Tk) (hd : TkS W base v l) (hb : base ≤ W.heap.size) (hz : l.length ≤ bigI) :
  ∃ v' w', (AppG #[23, 23] 23 #[v, .slice (some ⟨W.heap.size, 0, none⟩) 1 1]).run Tryz.prog (W.alloc (.cells (tkV x).toArray 37)) = .ok v' w' ∧ TkS w' base v' (l ++ [x]) ∧ Below base W w' ∧ ∀ k, k < W.heap.size → some k ≠ v.ownBlock → w'.heap[k]? = W.heap[k]? := by
 unfold bigI at hz
 obtain ⟨ii, hii, hzi0, hzi1, hzi2⟩ := info_parts tok_info
 obtain ⟨v', w', hrun, h2, h3, _, _⟩ := run_append_own_at (P := Tryz.prog) (W.alloc (.cells (tkV x).toArray 37)) base 23 23 37 ii _ 6 56 Tryz.underlying23 hii hzi0 hzi1 hzi2 rfl (by omega) v l.length _ (World.ownsRow.alloc hd _) ⟨W.heap.size, 0, none⟩ 1 1 (tkV x) rfl (World.news_of_block (cs := (tkV x).toArray) (t := 37) (fr := (0, 0)) (heap_alloc_new W _)) (tkV_one x) (by simp [maxLen]; omega) (by omega) (by simp; omega)
 refine ⟨v', w', hrun, ?_, (((Below.refl _ _).alloc hb _).grown h3 (by simp; omega) (fun g e => (hd.lt g e).1)), fun k hk hne => ?_⟩
 ·unfold TkS
  simpa using h2
 ·rw [h3.block k (by simp; omega) hne]
  exact ((Below.refl W.heap.size W).alloc (Nat.le_refl _) _).block k hk
def rTk : CR Tk := fun _ _ cs t => cs = tkV t
theorem sta_tk : Sta rTk := ⟨fun h _ => h, fun h _ => h⟩
theorem TkS.sl {w : World} {base : Nat} {v : Value} {l : List Tk} (h : TkS w base v l) : ∃ A cap, v = .slice A l.length cap ∧ Sl 6 rTk w w.heap.size A l :=
 own_sl (f := tkV) tkV_len (fun x _ => rfl) h
/-- What Lex holds: the text, the tokens, the fault, the place. -/
structure LexB (W : World) (b : Nat) (s : ByteArray) (k : Nat) (v : Value) : Prop where
 lt : b + 3 < W.heap.size
 c0 : W.cell? ⟨b, 0, none⟩ = some (.string s)
 c1 : W.cell? ⟨b + 1, 0, none⟩ = some v
 e0 : W.cell? ⟨b + 2, 0, none⟩ = some (.int .i64 0)
 e1 : W.cell? ⟨b + 2, 1, none⟩ = some (.int .i64 0)
 e2 : W.cell? ⟨b + 2, 2, none⟩ = some (.int .i64 0)
 c3 : W.cell? ⟨b + 3, 0, none⟩ = some (.int .i64 (k : Int))
 f1 : W.frozen? ⟨b + 1, 0, none⟩ = false
 g0 : W.frozen? ⟨b + 2, 0, none⟩ = false
 g1 : W.frozen? ⟨b + 2, 1, none⟩ = false
 g2 : W.frozen? ⟨b + 2, 2, none⟩ = false
 f3 : W.frozen? ⟨b + 3, 0, none⟩ = false
theorem LexB.below {W W' : World} {b B k : Nat} {s : ByteArray} {v : Value} (h : LexB W b s k v) (hb : Below B W W') (hB : b + 3 < B) : LexB W' b s k v := by
 have kk := bcell' hb
 exact ⟨Nat.lt_of_lt_of_le h.lt hb.size, (kk.1 b 0 (by omega)).trans h.c0, (kk.1 (b + 1) 0 (by omega)).trans h.c1, (kk.1 (b + 2) 0 (by omega)).trans h.e0, (kk.1 (b + 2) 1 (by omega)).trans h.e1, (kk.1 (b + 2) 2 (by omega)).trans h.e2, (kk.1 (b + 3) 0 (by omega)).trans h.c3, (kk.2 (b + 1) 0 (by omega)).trans h.f1, (kk.2 (b + 2) 0 (by omega)).trans h.g0, (kk.2 (b + 2) 1 (by omega)).trans h.g1, (kk.2 (b + 2) 2 (by omega)).trans h.g2, (kk.2 (b + 3) 0 (by omega)).trans h.f3⟩
theorem LexB.setK {W : World} {b k : Nat} {s : ByteArray} {v : Value} (h : LexB W b s k v) (k' : Nat) : LexB (W.setCell ⟨b + 3, 0, none⟩ (.int .i64 (k' : Int))) b s k' v := by
 obtain ⟨lt, c0, c1, e0, e1, e2, c3, f1, g0, g1, g2, f3⟩ := h
 refine ⟨by rw [setCell_size]; exact lt, ?_, ?_, ?_, ?_, ?_, ?_, ?_, ?_, ?_, ?_, ?_⟩ <;> simp [go_sem, c0, c1, e0, e1, e2, c3, f1, g0, g1, g2, f3]
theorem LexB.setV {W : World} {b k : Nat} {s : ByteArray} {v : Value} (h : LexB W b s k v) (v' : Value) : LexB (W.setCell ⟨b + 1, 0, none⟩ v') b s k v' := by
 obtain ⟨lt, c0, c1, e0, e1, e2, c3, f1, g0, g1, g2, f3⟩ := h
 refine ⟨by rw [setCell_size]; exact lt, ?_, ?_, ?_, ?_, ?_, ?_, ?_, ?_, ?_, ?_, ?_⟩ <;> simp [go_sem, c0, c1, e0, e1, e2, c3, f1, g0, g1, g2, f3]
/-- The place that Lex holds. -/
def kOf (b : Nat) (W : World) : Nat := match W.cell? ⟨b + 3, 0, none⟩ with | some v => (intOf v).toNat | none => 0
theorem LexB.kOf {W : World} {b k : Nat} {s : ByteArray} {v : Value} (h : LexB W b s k v) : kOf b W = k := by
 unfold YtmapiiclmmmpbaaGreatDoor.kOf
 rw [h.c3]; rfl
end Go.Proofs.YtmapiiclmmmpbaaGreatDoor
/-! Layer 3: Lex. -/
namespace Go.Proofs.YtmapiiclmmmpbaaGreatDoor
open Go.RowKit
theorem asE_yes (v : Value) (W : World) : (Instr.typeAssert (.iface 24 v) 20 24 true).run Tryz.prog W = .ok (.tuple #[v, .bool true]) W := by kernel_rfl
theorem asE_nil (W : World) : (Instr.typeAssert .nilIface 20 24 true).run Tryz.prog W = .ok (.tuple #[.int .i64 0, .bool false]) W := by kernel_rfl
theorem wpOpsS_k {P : Program} {ops : Array Oper} {Q : Exit → Act → List Frame → World → Prop} {l : List Nat} {a : Act} {cs : List Frame} {w : World} (h : ∀ K : Exit → Act → List Frame → World → Prop, (∀ e a cs w, Q e a cs w → K e a cs w) → wpOpsS P ops K l a cs w) : wpOpsS P ops Q l a cs w := h Q fun _ _ _ _ h => h
set_option maxRecDepth 100000 in
set_option maxHeartbeats 4000000 in
/-- Entered of a frame that panics with an error's number: the panic is marked, the results are laid. -/
theorem lexd_errno (b k : Nat) (s : ByteArray) (v : Value) (n : Int) (older : List PanicEntry) (w : World) (h : LexB w b s k v) (hk : k ≤ s.size) (hs : s.size < 4611686018427387904) (hn : n ≠ 0) :
  CallsD Tryz.prog 15 #[.pointer (some ⟨b, 0, none⟩), .pointer (some ⟨b + 3, 0, none⟩), .pointer (some ⟨b + 1, 0, none⟩), .pointer (some ⟨b + 2, 0, none⟩)] (.panicking ({ v := .iface 24 (.int .i64 n), recovered := false } :: older)) w fun e u' w' =>
   e = .returned (.tuple #[]) ∧ u' = .panicking ({ v := .iface 24 (.int .i64 n), recovered := true } :: older) ∧ ∃ w3, Below w.heap.size w w3 ∧ w' = ((((w3.setCell ⟨b + 1, 0, none⟩ (.slice none 0 0)).setCell ⟨b + 2, 0, none⟩ (.int .i64 n)).setCell ⟨b + 2, 1, none⟩ (.int .i64 (((placeR (s.data.toList.take k)).1 : Nat) : Int))).setCell ⟨b + 2, 2, none⟩ (.int .i64 (((placeR (s.data.toList.take k)).2 : Nat) : Int))) := by
 have hF := hide (fault_any s k n w hk hs hn)
 unfold faultV at hF
 generalize (((placeR (s.data.toList.take k)).1 : Nat) : Int) = pl at hF ⊢
 generalize (((placeR (s.data.toList.take k)).2 : Nat) : Int) = pc at hF ⊢
 have hb := hide h
 obtain ⟨lt, c0, c1, e0, e1, e2, c3, f1, g0, g1, g2, f3⟩ := h
 refine callsD_of_wpS Tryz.func15 rfl fun c₀ cs hu => ?_
 apply wpS_seq
 apply wpS_region
 refine wpOpsS_k fun K hK => ?_
 simp [wpOpsS, go_sem, asE_yes, recoverD, hu, Tryz.ntmps15]
 refine hK _ _ _ _ ?_
 clear hK K
 show Code.wpS _ _ _ _ _ _
 apply wpS_seq
 apply wpS_region
 refine wpOpsS_k fun K hK => ?_
 simp [wpOpsS, go_sem]
 refine hK _ _ _ _ ?_
 clear hK K
 show Code.wpS _ _ _ _ _ _
 refine wpS_cond (t := true) (by simp [Act.eval, Array.replicate]) ?_
 simp only [if_true]
 refine wpS_of_wp ?_
 go_wp2_with (go_at_call 16; refine hF.out.mono ?_; rintro e w3 ⟨rfl, hb3⟩; have kb := hb.out.below hb3 lt; obtain ⟨y, yc0, yc1, ye0, ye1, ye2, yc3, yf1, yg0, yg1, yg2, yf3⟩ := kb)
 exact ⟨rfl, _, rfl, .tuple #[], by simp [results, Tryz.results15], rfl, rfl, w3, hb3, rfl⟩
set_option maxRecDepth 100000 in
set_option maxHeartbeats 2000000 in
/-- Lex's deferred closure, entered of a frame that returns: recover finds nothing. -/
theorem lexd_idle (p q r t : Addr) (w : World) :
  CallsD Tryz.prog 15 #[.pointer (some p), .pointer (some q), .pointer (some r), .pointer (some t)] .returning w fun e u' w' => e = .returned (.tuple #[]) ∧ u' = .returning ∧ w' = w := by
 refine callsD_of_wpS Tryz.func15 rfl fun c₀ cs hu => ?_
 apply wpS_seq
 apply wpS_region
 refine wpOpsS_k fun K hK => ?_
 simp [wpOpsS, go_sem, asE_nil, recoverD, hu, Tryz.ntmps15]
 refine hK _ _ _ _ ?_
 clear hK K
 show Code.wpS _ _ _ _ _ _
 apply wpS_seq
 apply wpS_region
 refine wpOpsS_k fun K hK => ?_
 simp [wpOpsS, go_sem]
 refine hK _ _ _ _ ?_
 clear hK K
 show Code.wpS _ _ _ _ _ _
 refine wpS_cond (t := false) (by simp [Act.eval, Array.replicate]) ?_
 simp only [Bool.false_eq_true, if_false]
 refine wpS_of_wp ?_
 go_wp2
 exact ⟨rfl, .returning, by cases c₀; simp_all, .tuple #[], by simp [results, Tryz.results15], rfl, rfl, rfl⟩
end Go.Proofs.YtmapiiclmmmpbaaGreatDoor
/-! A region that draws its order: a head that only reads or calls, in whatever world has grown, and a tail in one forced order, which may write, or panic. -/
namespace Go.Proofs.YtmapiiclmmmpbaaGreatDoor
open Go Go.RowKit
section
variable {P : Program} {ops : Array Oper} {md : Region.Mode} {C : World → Prop}
/-- Whatever order the head takes. -/
def headQ (P : Program) (md : Region.Mode) (ops : Array Oper) (C : World → Prop) (n : Nat) (L : Array Bool → Act → Prop) : Nat → Array Bool → Act → Prop
 | 0, listed, a => L listed a
 | f + 1, listed, a => Region.ready md ops listed ≠ [] ∧ ∀ i ∈ Region.ready md ops listed, i < n ∧ qOp P ops C i (headQ P md ops C n L f (listed.setIfInBounds i true)) a
theorem wpAny_of_headQ {n g : Nat} {L : Array Bool → Act → Prop} {Q : Exit → Act → World → Prop} (hL : ∀ listed a w, C w → L listed a → wpAny P md ops Q g listed a w) :
  ∀ (f : Nat) (listed : Array Bool) (a : Act) (w : World), C w → headQ P md ops C n L f listed a → wpAny P md ops Q (f + g) listed a w
 | 0, listed, a, w, hw, h => by rw [Nat.zero_add]; exact hL _ _ _ hw h
 | f + 1, listed, a, w, hw, h => by
  rw [Nat.add_right_comm]
  exact ⟨fun h0 => absurd h0 h.1, fun i hi => wpOp_of_qOp hw (fun a' w' hw' h' => wpAny_of_headQ hL f _ a' w' hw' h') (h.2 i hi).2⟩
theorem headQ_first {n i : Nat} {oi : Oper} {v : Value} {L : Array Bool → Act → Prop} (hi : ops[i]? = some oi) (hsel : ∀ (j : Nat) (o : Oper) cs b, ops[j]? = some o → o.op ≠ .select cs b)
  (hs : Region.sinkB md ops n = true) (hc : Region.chainB md ops n = true) (hn : n < ops.size) (hin : i < n) (hdone : ∀ listed a, L listed a → ∀ j ∈ Region.ready md ops listed, n ≤ j) :
  ∀ (f : Nat) (listed : Array Bool) (a : Act), HeadInv md ops n listed →
   (∀ j oj, ops[j]? = some oj → j ≠ i → listed.getD j true = false → (∀ e ∈ oj.after, Region.binds md e = true → e.on ≠ i) → oi.apart ops oj = true) →
   i ∈ Region.ready md ops listed → YieldsIn P ops C oi v a → headQ P md ops C n L f (listed.setIfInBounds i true) (a.put oi.dst v) → headQ P md ops C n L (f + 1) listed a := by
 intro f
 induction f with
 | zero =>
  intro listed a inv _ hr hy H
  refine ⟨fun h => (by rw [h] at hr; cases hr), fun j hj => ?_⟩
  have hjn : j < n := Nat.lt_of_not_le fun h => tail_waits hs hc hn inv _ i rfl hin (mem_ready.1 hr).1 j h hj
  by_cases e : j = i
  ·subst e; exact ⟨hjn, hy.qOp hi H⟩
  ·exact absurd (hdone _ _ H j (ready_mono hj e)) (by omega)
 | succ f ih =>
  intro listed a inv hfree hr hy H
  have hun := (mem_ready.1 hr).1
  refine ⟨fun h => (by rw [h] at hr; cases hr), fun j hj => ?_⟩
  have hjn : j < n := Nat.lt_of_not_le fun h => tail_waits hs hc hn inv _ i rfl hin hun j h hj
  by_cases e : j = i
  ·subst e; exact ⟨hjn, hy.qOp hi H⟩
  ·refine ⟨hjn, ?_⟩
   obtain ⟨hjun, oj, hoj, hall⟩ := mem_ready.1 hj
   have hnot : ∀ x ∈ oj.after, Region.binds md x = true → x.on ≠ i := fun x hx hb he => by
    have h1 := hall x hx hb
    rw [he, getD_both hun] at h1
    cases h1
   refine qOp_mono (fun a' h3 => ih _ a' (inv.set hj hjn) (fun k ok hk hki hu hno => hfree k ok hk hki ?_ hno) (ready_mono hr (Ne.symm e)) h3.1 ?_)
    (qOp_put hoj (hfree j oj hoj e hjun hnot) (fun cs b => hsel i oi cs b hi) (fun cs b => hsel j oj cs b hoj) hy (H.2 j (ready_mono hj e)).2)
   ·by_cases ejk : j = k
    ·subst ejk; exact hjun
    ·rw [getD_set_ne true ejk] at hu; exact hu
   ·rw [Array.setIfInBounds_comm _ _ e]
    exact h3.2
theorem headQ_lex {n g : Nat} {T : Act → Prop} (hsel : Region.noSelect ops = true) (hs : Region.sinkB md ops n = true) (hc : Region.chainB md ops n = true) (hn : n < ops.size) :
  ∀ (l : List Oper) (k : Nat) (listed : Array Bool) (a : Act), (∀ j, j < l.length → l[j]? = ops[k + j]?) → k + l.length = n → HeadInv md ops n listed → Region.lexHead md ops g l.length k listed = true → wpQuiet P ops C T l a →
   headQ P md ops C n (fun x y => Region.seqB md ops g n x = true ∧ T y) l.length listed a
 | [], k, listed, a, _, hk, _, hB, h => by
  obtain rfl : k = n := by simpa using hk
  exact ⟨by simpa [Region.lexHead] using hB, h⟩
 | o :: l, k, listed, a, hl, hk, inv, hB, h => by
  have h0 : ops[k]? = some o := by simpa using (hl 0 (by simp)).symm
  simp only [List.length_cons, Region.lexHead, Bool.and_eq_true] at hB
  rw [List.length_cons] at hk
  have hr : k ∈ Region.ready md ops listed := by simpa using hB.1.1
  obtain ⟨v, hy, hK⟩ := yieldsIn_of_qOp h0 (show qOp P ops C k (wpQuiet P ops C T l) a from by unfold qOp; simp only [h0]; exact h)
  exact headQ_first h0 (Region.noSelect_spec hsel) hs hc hn (by omega) (fun _ _ hL => seqB_ready hL.1) l.length listed a inv (Region.free_spec h0 hB.1.2) hr hy
   (headQ_lex hsel hs hc hn l (k + 1) _ _ (fun j hj => by have := hl (j + 1) (by simpa using hj); simpa [Nat.add_assoc, Nat.add_comm 1 j] using this) (by omega) (inv.set hr (by omega)) hB.2 hK)
end
/-- The first n operations read, or call what lays memory; the others follow in one order. -/
theorem wp_region_quiet_tail {P : Program} {id : Nat} {Q : Exit → Act → World → Prop} {a : Act} {w : World} {l : List Oper} (n : Nat) (hm : P.follows .mixedOrders = true) (hB : Region.lexTailB .any l.toArray n = true)
  (h : wpQuiet P l.toArray (fun w' => ∃ p : Regrown, w' = Go.Sort.grow (redrawn w p.d) p.os) (fun a' => ∀ w', Below w.heap.size w w' → wpList P l.toArray Q (l.drop n) a' w') (l.take n) a) : (Code.region id l.toArray true).wp P Q a w := by
 simp only [Region.lexTailB, Bool.and_eq_true, decide_eq_true_eq] at hB
 obtain ⟨⟨⟨⟨hsel, hn⟩, hs⟩, hc⟩, hlex⟩ := hB
 have htl : (l.take n).length = n := by simp at hn ⊢; omega
 have hdl : (l.drop n).length = l.toArray.size - n := by simp
 have inv0 : HeadInv .any l.toArray n (Array.replicate l.toArray.size false) :=
  ⟨by simp, fun j oj _ hl => (by rw [getD_replicate_false] at hl; cases hl), fun t _ ht => getD_in (by simpa using ht) (getD_replicate_false _ _)⟩
 refine wp_region_any hm ?_
 have H := headQ_lex (md := .any) (g := l.toArray.size - n) hsel hs hc hn (l.take n) 0 _ a (fun j hj => by rw [htl] at hj; simp [hj]) (by simpa using htl) inv0 (by rw [htl]; exact hlex) h
 have := wpAny_of_headQ (Q := Q) (g := l.toArray.size - n) (fun listed a' w' hw hL => by
  have := wpAny_of_seq (md := .any) (Q' := Q) (l.drop n) n listed a' w' (fun j => by simp [List.getElem?_drop]) (by rw [hdl]; exact hL.1) (hL.2 w' (below_of_regrown hw))
  rwa [hdl] at this) _ _ _ { w with drawn := w.drawn + 1 } ⟨⟨w.drawn + 1, #[]⟩, by rw [Go.Sort.grow_empty]; rfl⟩ H
 rwa [htl, show n + (l.toArray.size - n) = l.toArray.size by omega] at this
end Go.Proofs.YtmapiiclmmmpbaaGreatDoor

import Derived.Test.YtbbdhknagofghaaGreatWhl32
import Derived.Test.YtbbdhknagofghaaGreatWhl02
set_option linter.all false
/-! Layer 8: Check, given that resolve.Check is well and what resolve.Items answers. -/
namespace Go.Proofs.YtbbdhknagofghaaGreat
open Go.RowKit
def firstT (p : Pg) : List It → Nat → Int → Int × Int
 | [], _, d => (d, 0)
 | x :: l, i, d => if errN (itemR p x) = 0 then firstT p l (i + 1) d else ((i : Int), errN (itemR p x))
theorem firstT_done (p : Pg) (d : Int) : ∀ (l : List It) (i : Nat), (∀ x ∈ l, errN (itemR p x) = 0) → firstT p l i d = (d, 0)
 | [], _, _ => rfl
 | x :: l, i, h => by
  rw [firstT, if_pos (h x (by simp))]
  exact firstT_done p d l (i + 1) fun y hy => h y (List.mem_cons_of_mem _ hy)
theorem firstT_stop (p : Pg) (d : Int) : ∀ (l : List It) (i k : Nat) (x : It), l[k]? = some x → (∀ (j : Nat) (y : It), j < k → l[j]? = some y → errN (itemR p y) = 0) → ¬ errN (itemR p x) = 0 → firstT p l i d = (((i + k : Nat) : Int), errN (itemR p x))
 | [], _, _, _, h, _, _ => by simp at h
 | y :: l, i, 0, x, h, _, hx => by
  simp at h; subst h
  rw [firstT, if_neg hx]; rfl
 | y :: l, i, k + 1, x, h, h0, hx => by
  rw [firstT, if_pos (h0 0 y (by omega) rfl), firstT_stop p d l (i + 1) k x (by simpa using h) (fun j z hj hz => h0 (j + 1) z (by omega) (by simpa using hz)) hx]
  rw [show i + 1 + k = i + (k + 1) from by omega]
theorem KCap.below {w W : World} {B : Nat} (A1 A2 A3 A4 A5 A6 A7 : Option Addr) (p : Pg) (c1 c2 c3 c4 c5 c6 c7 : Nat) (hP : PgS w B A1 A2 A3 A4 A5 A6 A7 p) (h : Below B w W) (hc : KCap w A5 p) : KCap W A5 p := fun i hi g o A c hA hcell => by
 obtain ⟨b, o', ecs, hA', hb, -⟩ := hP.tables.2 i _ (List.getElem?_eq_getElem hi)
 have hg : g < B := by
  rw [hA'] at hA
  injection hA with hA
  injection hA with h1
  omega
 exact hc i hi g o A c hA (by rw [← hcell]; exact (h.cell (p := ⟨g, o + i * 5 + 1, none⟩) hg).symm)
set_option maxRecDepth 100000 in
set_option maxHeartbeats 16000000 in
theorem tcheck_any (A1 A2 A3 A4 A5 A6 A7 : Option Addr) (p : Pg) (c1 c2 c3 c4 c5 c6 c7 : Nat) (B : Nat) (hm : mayP p = true) (n0 : Int) (items : List It) (w : World) (hB : B ≤ w.heap.size) (hP : PgS w B A1 A2 A3 A4 A5 A6 A7 p) (hcap : KCap w A5 p)
  (hC : ∀ W, Below w.heap.size w W → Calls Tryz.prog 17 #[.agg #[.slice A1 p.headers.length c1, .slice A2 p.metas.length c2, .slice A3 p.states.length c3, .slice A4 p.actions.length c4, .slice A5 p.tables.length c5, .slice A6 p.control.length c6, .slice A7 p.emit.length c7]] W fun e W' => e = .returned (.tuple #[.int .i64 n0, .int .i64 0]) ∧ Below W.heap.size W W')
  (hI : ∀ W, Below w.heap.size w W → Calls Tryz.prog 18 #[.agg #[.slice A1 p.headers.length c1, .slice A2 p.metas.length c2, .slice A3 p.states.length c3, .slice A4 p.actions.length c4, .slice A5 p.tables.length c5, .slice A6 p.control.length c6, .slice A7 p.emit.length c7]] W fun e W' => (∃ A cap, e = .returned (.slice A items.length cap) ∧ Sl 17 rIt W' W'.heap.size A items) ∧ Below W.heap.size W W')
  (hok : ∀ (k : Nat) (x : It), items[k]? = some x → (∀ (j : Nat) (y : It), j < k → items[j]? = some y → errN (itemR p y) = 0) → ItOk p x) :
  Calls Tryz.prog 7 #[.agg #[.slice A1 p.headers.length c1, .slice A2 p.metas.length c2, .slice A3 p.states.length c3, .slice A4 p.actions.length c4, .slice A5 p.tables.length c5, .slice A6 p.control.length c6, .slice A7 p.emit.length c7]] w fun e w' => e = .returned (.tuple #[.int .i64 (firstT p items 0 n0).1, .int .i64 (firstT p items 0 n0).2]) ∧ Below w.heap.size w w' := by
 have hmf : ∀ (fn : Fn) (first cap : Array Value) (w : World), (Instr.makeFunc fn first cap).run Tryz.prog w = .ok (.func fn first cap) w := fun _ _ _ _ => rfl
 obtain ⟨wu, hwu, hsu, hbu, hcu, -⟩ := box1 w #[.slice A1 p.headers.length c1, .slice A2 p.metas.length c2, .slice A3 p.states.length c3, .slice A4 p.actions.length c4, .slice A5 p.tables.length c5, .slice A6 p.control.length c6, .slice A7 p.emit.length c7] 30
 obtain ⟨u0, u1, u2, u3, u4, u5, u6⟩ := row7 hcu
 have hl1 : w.heap.size < wu.heap.size := by omega
 have hu := hide hcu
 have hC1 := hide (hC wu hbu)
 replace hsu := hide hsu
 clear hC hcu
 go_enter Tryz.func7, Tryz.ntmps7
 go_wp2_with (first | (go_at_call 18; with_reducible refine (hI2.out).mono ?_; rintro e w2 ⟨⟨A, cap, rfl, hS⟩, hb2⟩) | (go_at_call 17; refine hC1.out.mono ?_; rintro e w1 ⟨rfl, hb1⟩; have kb1 := bcell' hb1; have q1 := Nat.lt_of_lt_of_le hl1 hb1.size; have hI2 := hide (hI w1 (hbu.trans (hb1.mono (Nat.le_of_lt hl1))))))
 have hb12 := hb1.trans (hb2.mono hb1.size)
 have hbw := hbu.trans (hb12.mono (Nat.le_of_lt hl1))
 have kb2 := bcell' hb12
 have q2 := Nat.lt_of_lt_of_le hl1 hb12.size
 have hP2 := hP.below (hbw.mono hB)
 have hB2 : B ≤ w2.heap.size := Nat.le_trans hB hbw.size
 have hc2 := KCap.below A1 A2 A3 A4 A5 A6 A7 p c1 c2 c3 c4 c5 c6 c7 hP (hbw.mono hB) hcap
 have hu2 := hide (fun i => (hb12.cell (p := ⟨w.heap.size, i, none⟩) hl1).trans (hu.out i))
 have lS := hS.len
 have hX0 := hide (fun (x : It) (hx : ItOk p x) (s0 s1 s2 s3 s4 s5 s6 s7 s8 s9 s10 s11 s12 s13 : Value) (gb : Nat) (W : World) (hW : Below w2.heap.size w2 W) (h : rIt w2 w2.heap.size [.int .u8 x.kind, .int .i64 x.a, .int .i64 x.b, s0, s1, s2, s3, s4, s5, s6, s7, s8, s9, s10, s11, s12, s13] x) (hxc : ∀ i, W.cell? ⟨gb, i, none⟩ = (#[.int .u8 x.kind, .int .i64 x.a, .int .i64 x.b, s0, s1, s2, s3, s4, s5, s6, s7, s8, s9, s10, s11, s12, s13] : Array Value)[i]?) =>
  tcheck1_any A1 A2 A3 A4 A5 A6 A7 p c1 c2 c3 c4 c5 c6 c7 w2.heap.size hm x hx s0 s1 s2 s3 s4 s5 s6 s7 s8 s9 s10 s11 s12 s13 w.heap.size gb W hW.size ((hP2.more hB2).below hW) (KCap.below A1 A2 A3 A4 A5 A6 A7 p c1 c2 c3 c4 c5 c6 c7 (hP2.more hB2) hW hc2) (sta_it.keep h fun q hq => hW.cell hq) (fun i => (hW.cell (p := ⟨w.heap.size, i, none⟩) q2).trans (hu2.out i)) hxc)
 have hs0 := hide (Below.refl w2.heap.size w2)
 replace hS := hide hS
 replace hbw := hide hbw
 clear kb1 q1 hb1 hb2 hb12 hP hP2 hcap hc2 hI
 go_loopw [21] (fun q wr => ∃ k : Nat, k ≤ items.length ∧ q = .int .i64 k ∧ Hid (∀ (j : Nat) (y : It), j < k → items[j]? = some y → errN (itemR p y) = 0) ∧ Hid (Below w2.heap.size w2 wr)) (fun q _ => items.length - (intOf q).toNat)
 case atStart => exact ⟨0, Nat.zero_le _, rfl, hide (fun j y h => absurd h (Nat.not_lt_zero _)), hs0⟩
 case round =>
  clear hs0
  obtain ⟨k, hk, rfl, ht, hbr⟩ := hrel
  have hzr := hbr.out.size
  have hc := bcell' hbr.out
  have r2 := Nat.lt_of_lt_of_le q2 hzr
  by_cases hlt : k < items.length
  ·obtain ⟨x, hxk⟩ : ∃ x, items[k]? = some x := ⟨_, List.getElem?_eq_getElem hlt⟩
   obtain ⟨g, o, ecs, hA, hb, hel, hcell, scs, hf, hst⟩ := hS.out.2 k _ hxk
   subst hA
   obtain ⟨xk, xa, xb, xs⟩ := x
   obtain ⟨sk, shead, sname, se, sthn, sels⟩ := xs
   have hst' := hst
   obtain ⟨es, SA, scap, SA', scap', rfl, -, -, -, hE, -, -⟩ := RS.inv hst'
   obtain ⟨op, lit, ehead, ename, hi, lo, args⟩ := se
   obtain ⟨Ae, ecap, rfl, -⟩ := RE.inv hE
   obtain ⟨x, hxx⟩ : ∃ x, x = (⟨xk, xa, xb, .mk sk shead sname (.mk op lit ehead ename hi lo args) sthn sels⟩ : It) := ⟨_, rfl⟩
   simp only at hf hst
   rw [← hxx] at hxk
   have hx0 := hok k _ hxk ht.out
   have hit := hide (show rIt w2 w2.heap.size [.int .u8 xk, .int .i64 xa, .int .i64 xb, .int .u8 sk, .string shead, .string sname, .int .u8 op, .int .i64 lit.1, .int .u64 lit.2.1, .int .u64 lit.2.2, .string ehead, .string ename, .int .i64 hi, .int .i64 lo, .slice Ae args.length ecap, .slice SA sthn.length scap, .slice SA' sels.length scap'] x from by rw [hxx]; exact ⟨_, rfl, hst⟩)
   have hltz : (k : Int) < (items.length : Int) := by omega
   have hstp := hide (firstT_stop p n0 items 0 k _ hxk ht.out)
   have hnx : ∀ h : errN (itemR p x) = 0, ∀ (j : Nat) (y : It), j < k + 1 → items[j]? = some y → errN (itemR p y) = 0 := fun h j y hj hy => by
    by_cases e : j = k
    ·subst e
     rw [hxk] at hy
     injection hy with hy
     rw [← hy]; exact h
    ·exact ht.out j y (by omega) hy
   replace hnx := hide hnx
   subst hf
   obtain ⟨x0, x1, x2, x3, x4, x5, x6, x7, x8, x9, x10, x11, x12, x13, x14, x15, x16⟩ := srow17 hcell
   obtain ⟨wy, hwy, hzy, hby, hcy, -⟩ := box1 wr #[.int .u8 xk, .int .i64 xa, .int .i64 xb, .int .u8 sk, .string shead, .string sname, .int .u8 op, .int .i64 lit.1, .int .u64 lit.2.1, .int .u64 lit.2.2, .string ehead, .string ename, .int .i64 hi, .int .i64 lo, .slice Ae args.length ecap, .slice SA sthn.length scap, .slice SA' sels.length scap'] 49
   have hbX := hbr.out.trans (hby.mono hzr)
   have hlt2 : wr.heap.size < wy.heap.size := by omega
   have hX := hide (caught_check (some ⟨w.heap.size, 0, none⟩) (some ⟨wr.heap.size, 0, none⟩) (itemR p x) wy (fun W hW => by subst hxx; exact hX0.out _ hx0 (.int .u8 sk) (.string shead) (.string sname) (.int .u8 op) (.int .i64 lit.1) (.int .u64 lit.2.1) (.int .u64 lit.2.2) (.string ehead) (.string ename) (.int .i64 hi) (.int .i64 lo) (.slice Ae args.length ecap) (.slice SA sthn.length scap) (.slice SA' sels.length scap') wr.heap.size W (hbX.trans (hW.mono hbX.size)) hit.out (fun i => (hW.cell (p := ⟨wr.heap.size, i, none⟩) hlt2).trans (hcy i))))
   replace hbX := hide hbX
   clear hcell hel hst hx0 hit hby hcy hok hX0 hxk hzy
   generalize errN (itemR p x) = en0 at hX hstp hnx
   by_cases h0 : en0 = 0
   ·subst h0
    have hres := hide (hnx.out rfl)
    clear hnx hstp
    go_wp2_with (go_at_call 19; refine hX.out.mono ?_; rintro e w4 ⟨rfl, hb4⟩)
    go_roundw
    case rel => exact ⟨k + 1, by omega, by go_num, hres, hide (hbX.out.trans (hb4.mono hbX.out.size))⟩
    case measure => simp [intOf]; omega
   ·have h0q : (en0 != 0) = true := bne_iff_ne.2 h0
    have hres := hide (hstp.out h0)
    clear hnx hstp
    go_wp2_with (go_at_call 19; refine hX.out.mono ?_; rintro e w4 ⟨rfl, hb4⟩)
    go_ret2
    exact ⟨by rw [hres.out]; simp, hbw.out.trans ((hbX.out.trans (hb4.mono hbX.out.size)).mono hbw.out.size)⟩
  ·have hfull := hide (firstT_done p n0 items 0 (fun x hx => by
    obtain ⟨j, hj, rfl⟩ := List.getElem_of_mem hx
    exact ht.out j _ (by omega) (List.getElem?_eq_getElem hj)))
   go_wp2
   go_ret2
   exact ⟨by first | (rw [hfull.out]; done) | (rw [hfull.out]; rfl) | simp [hfull.out], hbw.out.trans (hbr.out.mono hbw.out.size)⟩
end Go.Proofs.YtbbdhknagofghaaGreat
/-! Plain law of ResolveOnce: where nothing is wrong, each name means the one. -/
namespace Go.Proofs.YtbbdhknagofghaaGreat
theorem firstBad_ok {p : Pg} : ∀ (l : List It) (n : Nat), (firstBad p l n).2 = 0 → (firstBad p l n).1 = ((n + l.length : Nat) : Int) ∧ ∀ x ∈ l, checkI p x = 0
 | [], n, _ => by simp [firstBad]
 | x :: l, n, h => by
  by_cases e : checkI p x = 0
  ·rw [firstBad, if_pos e] at h ⊢
   obtain ⟨h1, h2⟩ := firstBad_ok l (n + 1) h
   refine ⟨by rw [h1]; simp; omega, fun y hy => ?_⟩
   rcases List.mem_cons.1 hy with rfl | hy
   ·exact e
   ·exact h2 y hy
  ·rw [firstBad, if_neg e] at h
   exact absurd h e
theorem either_zero {e f : Int} (h : eitherI e f = 0) : e = 0 ∧ f = 0 := by
 unfold eitherI at h
 split at h <;> simp_all
theorem is_zero {b : Bool} {e : Int} (he : e ≠ 0) (h : isI b e = 0) : b = false := by
 cases b
 ·rfl
 ·exact absurd h he
/-! How many items. -/
mutual
def countS : St → Nat
 | .mk _ _ _ _ thn els => 1 + countL thn + countL els
def countL : List St → Nat
 | [] => 0
 | s :: l => countS s + countL l
end
theorem count_items (a : Int) (s : St) : (itemsS a s).length = countS s := by
 have key : ∀ s : St, (itemsS a s).length = countS s := by
  intro s
  induction s using St.ind with
  | h kind head name e thn els ih1 ih2 =>
   have g : ∀ l : List St, (∀ x ∈ l, (itemsS a x).length = countS x) → (itemsL a l).length = countL l := by
    intro l
    induction l with
    | nil => intro _; rfl
    | cons x l ih => intro h; simp only [itemsL, countL, List.length_append, h x List.mem_cons_self, ih fun y hy => h y (List.mem_cons_of_mem _ hy)]
   simp only [itemsS, countS, List.length_cons, List.length_append, g thn ih1, g els ih2]
   omega
 exact key s
theorem count_itemsL (a : Int) : ∀ l : List St, (itemsL a l).length = countL l
 | [] => rfl
 | x :: l => by simp only [itemsL, countL, List.length_append, count_items, count_itemsL a l]
def countP (p : Pg) : Nat :=
 (p.headers.map fun h => h.fields.length + 1).sum + p.metas.length + (p.states.map fun s => 1 + s.takes.length + 1 + s.cases_.length).sum + (p.actions.map fun a => 1 + a.params.length + countL a.body).sum +
  (p.tables.map fun t => 1 + t.keys.length + t.actions.length + 1).sum + countL p.control + p.emit.length
theorem length_eachI {α : Type} {kind : Int} {g : Nat → α → List It} (f : α → Nat) (hg : ∀ i a, (g i a).length + 1 = f a) (l : List α) : (eachI kind l g).length = (l.map f).sum := by
 unfold eachI
 generalize hk : (0 : Nat) = k
 clear hk
 induction l generalizing k with
 | nil => simp
 | cons a l ih => simp only [List.zipIdx_cons, List.flatMap_cons, List.length_append, List.length_cons, List.map_cons, List.sum_cons, hg, ih (k + 1)]
theorem length_manyI {kind : Int} {a n : Nat} : (manyI kind a n).length = n := by simp [manyI]
theorem length_itemsP (p : Pg) : (itemsP p).length = countP p := by
 unfold itemsP headsI metasI statesI actsI tabsI emitsI
 simp only [List.length_append]
 rw [length_eachI (fun h : Hd => h.fields.length + 1) (by simp [length_manyI]), length_eachI (fun _ : Fd => 1) (by simp), length_eachI (fun s : Sa => 1 + s.takes.length + 1 + s.cases_.length) (by simp [length_manyI]; omega),
  length_eachI (fun a : Ac => 1 + a.params.length + countL a.body) (by simp [length_manyI, count_itemsL]; omega), length_eachI (fun t : Ta => 1 + t.keys.length + t.actions.length + 1) (by simp [length_manyI]; omega), count_itemsL, length_eachI (fun _ : ByteArray => 1) (by simp)]
 have c1 : ∀ {α : Type} (l : List α), (l.map fun _ => 1).sum = l.length := fun l => by induction l <;> simp_all <;> omega
 rw [c1, c1]
 unfold countP
 omega
/-- So many items has a statement of a block so deep at most. -/
theorem count_le (s : St) : ∀ d : Nat, mayS s d = true → d ≤ 8 → countS s ≤ 65 ^ (8 - d) := by
 induction s using St.ind with
 | h kind head name e thn els ih1 ih2 =>
  intro d hm hd
  have g : ∀ l : List St, (∀ x ∈ l, ∀ d : Nat, mayS x d = true → d ≤ 8 → countS x ≤ 65 ^ (8 - d)) → d + 1 ≤ 8 → mayL l (d + 1) = true → countL l ≤ l.length * 65 ^ (8 - (d + 1)) := by
   intro l
   induction l with
   | nil => intro _ _ _; simp [countL]
   | cons x l ih =>
    intro h hd1 hml
    simp only [mayL, Bool.and_eq_true] at hml
    have h1 := h x List.mem_cons_self (d + 1) hml.1 hd1
    have h2 := ih (fun y hy => h y (List.mem_cons_of_mem _ hy)) hd1 hml.2
    simp only [countL, List.length_cons, Nat.add_mul]
    omega
  have key : ∀ l : List St, (∀ x ∈ l, ∀ d : Nat, mayS x d = true → d ≤ 8 → countS x ≤ 65 ^ (8 - d)) → (l.isEmpty || (decide (d + 1 ≤ 8) && decide (l.length ≤ 32) && mayL l (d + 1))) = true → 2 * countL l + 1 ≤ 65 ^ (8 - d) := by
   intro l hl hb
   cases l with
   | nil => simp only [countL]; exact Nat.one_le_pow _ _ (by omega)
   | cons x l =>
    simp only [List.isEmpty_cons, Bool.false_or, Bool.and_eq_true, decide_eq_true_eq] at hb
    have h1 := g (x :: l) hl hb.1.1 hb.2
    have h2 : 8 - d = (8 - (d + 1)) + 1 := by omega
    rw [h2, Nat.pow_succ]
    have h3 : 1 ≤ 65 ^ (8 - (d + 1)) := Nat.one_le_pow _ _ (by omega)
    have h4 : (x :: l).length * 65 ^ (8 - (d + 1)) ≤ 32 * 65 ^ (8 - (d + 1)) := Nat.mul_le_mul_right _ hb.1.2
    omega
  have none_ : thn.isEmpty = true → els.isEmpty = true → countS (.mk kind head name e thn els) ≤ 65 ^ (8 - d) := by
   intro h1 h2
   rw [List.isEmpty_iff] at h1 h2
   subst h1 h2
   simp only [countS, countL]
   exact Nat.one_le_pow _ _ (by omega)
  unfold mayS at hm
  split at hm
  ·simp only [Bool.and_eq_true] at hm; exact none_ hm.1.1.1.1 hm.1.1.1.2
  split at hm
  ·simp only [Bool.and_eq_true] at hm
   have h1 := key thn ih1 hm.1.2
   have h2 := key els ih2 hm.2
   simp only [countS]
   omega
  split at hm
  ·simp only [Bool.and_eq_true] at hm; exact none_ hm.1.1.1.1 hm.1.1.1.2
  split at hm
  ·simp only [Bool.and_eq_true] at hm; exact none_ hm.1.1.1.1 hm.1.1.1.2
  split at hm
  ·simp only [Bool.and_eq_true] at hm; exact none_ hm.1.1.1.1 hm.1.1.1.2
  split at hm
  ·simp only [Bool.and_eq_true] at hm; exact none_ hm.1.1.1.1 hm.1.1.1.2
  ·cases hm
theorem countL_le (l : List St) (h : mayBlk l 1 = true) : countL l ≤ 156871292500000 := by
 unfold mayBlk at h
 cases l with
 | nil => simp [countL]
 | cons x l =>
  simp only [List.isEmpty_cons, Bool.false_or, Bool.and_eq_true, decide_eq_true_eq] at h
  have g : ∀ l : List St, mayL l 1 = true → countL l ≤ l.length * 65 ^ 7 := by
   intro l
   induction l with
   | nil => intro _; simp [countL]
   | cons x l ih =>
    intro hl
    simp only [mayL, Bool.and_eq_true] at hl
    have h1 := count_le x 1 hl.1 (by omega)
    have h2 := ih hl.2
    simp only [countL, List.length_cons, Nat.add_mul]
    omega
  have h1 := g _ h.2
  have h4 : (x :: l).length * 65 ^ 7 ≤ 156871292500000 := Nat.mul_le_mul_right _ h.1.2
  omega
theorem sum_le {α : Type} {f : α → Nat} {m : Nat} : ∀ {l : List α}, (∀ x ∈ l, f x ≤ m) → (l.map f).sum ≤ l.length * m
 | [], _ => by simp
 | x :: l, h => by
  have h1 := h x List.mem_cons_self
  have h2 := sum_le (l := l) fun y hy => h y (List.mem_cons_of_mem _ hy)
  simp only [List.map_cons, List.sum_cons, List.length_cons, Nat.add_mul]
  omega
set_option maxRecDepth 100000 in
theorem countP_le {p : Pg} (hm : mayP p = true) : countP p ≤ 4611686018427387904 := by
 simp only [mayP, manyB, Bool.and_eq_true, decide_eq_true_eq] at hm
 obtain ⟨⟨⟨⟨⟨⟨⟨⟨n1, n2, n3, n4, n5, n6, n7⟩, h1⟩, h2⟩, h3⟩, h4⟩, h5⟩, h6⟩, h7⟩ := hm
 have s1 : (p.headers.map fun h => h.fields.length + 1).sum ≤ p.headers.length * 17 := sum_le fun x hx => by
  have := List.all_eq_true.1 h1 x hx
  simp only [hdB, Bool.and_eq_true, decide_eq_true_eq] at this
  omega
 have s3 : (p.states.map fun s => 1 + s.takes.length + 1 + s.cases_.length).sum ≤ p.states.length * 26 := sum_le fun x hx => by
  have := List.all_eq_true.1 h3 x hx
  simp only [saB, Bool.and_eq_true, decide_eq_true_eq] at this
  obtain ⟨⟨⟨_, t1⟩, _⟩, t2⟩ := this
  split at t2
  ·simp only [Bool.and_eq_true, decide_eq_true_eq] at t2; omega
  ·simp only [Bool.and_eq_true, List.isEmpty_iff] at t2; rw [t2.2]; simp; omega
 have s4 : (p.actions.map fun a => 1 + a.params.length + countL a.body).sum ≤ p.actions.length * (9 + 156871292500000) := sum_le fun x hx => by
  have := List.all_eq_true.1 h4 x hx
  simp only [acB, Bool.and_eq_true, decide_eq_true_eq] at this
  have := countL_le _ this.2
  omega
 have s5 : (p.tables.map fun t => 1 + t.keys.length + t.actions.length + 1).sum ≤ p.tables.length * 22 := sum_le fun x hx => by
  have := List.all_eq_true.1 h5 x hx
  simp only [taB, Bool.and_eq_true, decide_eq_true_eq] at this
  omega
 have s6 := countL_le _ h6
 have t1 : p.headers.length * 17 ≤ 8 * 17 := Nat.mul_le_mul_right _ n1
 have t3 : p.states.length * 26 ≤ 16 * 26 := Nat.mul_le_mul_right _ n4
 have t4 : p.actions.length * (9 + 156871292500000) ≤ 16 * (9 + 156871292500000) := Nat.mul_le_mul_right _ n5
 have t5 : p.tables.length * 22 ≤ 8 * 22 := Nat.mul_le_mul_right _ n6
 unfold countP
 omega
end Go.Proofs.YtbbdhknagofghaaGreat

import Derived.Test.YtbbdhknagofghaaGreatWhl34
import Derived.Test.YtbbdhknagofghaaGreatWhl36
import Derived.Test.YtbbdhknagofghaaGreatWhl35
set_option linter.all false
/-! Plain: where Check tells OK, what is in an expression has a type. -/
namespace Go.Proofs.YtbbdhknagofghaaGreat
theorem two_end {op : Int} {lit : Lt} {head name : ByteArray} {hi lo : Int} {a b : Ex} {l : List Ex} (h : allE (.mk op lit head name hi lo (a :: b :: l)) = true) : l = [] := by
 simp only [allE, Bool.and_eq_true] at h
 have h1 := h.1.1
 unfold oneB at h1
 cases hf : formOf op with
 | none => rw [hf] at h1; cases h1
 | some x =>
  rw [hf] at h1
  obtain ⟨⟨b1, b2, b3, b4⟩, n⟩ := x
  simp only [Bool.and_eq_true, decide_eq_true_eq] at h1
  have hn := h1.1.1.1.1
  simp only [List.length_cons] at hn
  unfold formOf at hf
  have : l.length = 0 := by
   repeat' split at hf
   all_goals first
    | (cases hf; done)
    | (simp only [Option.some.injEq, Prod.mk.injEq] at hf; omega)
  exact List.eq_nil_of_length_eq_zero this
theorem mayE_arg {op : Int} {lit : Lt} {head name : ByteArray} {hi lo : Int} {args : List Ex} (h : mayE (.mk op lit head name hi lo args) = true) {x : Ex} (hx : x ∈ args) : mayE x = true := by
 simp only [mayE, Bool.and_eq_true, decide_eq_true_eq] at h ⊢
 obtain ⟨hd, ha⟩ := h
 simp only [depthE] at hd
 simp only [allE, Bool.and_eq_true, allL_all, List.all_eq_true] at ha
 have := depth_mem hx
 exact ⟨by omega, ha.2 x hx⟩
theorem typed_arg {p : Pg} {act op : Int} {lit : Lt} {head name : ByteArray} {hi lo : Int} {args : List Ex} (he : allE (.mk op lit head name hi lo args) = true) {t : Ty} (h : ofR p act (.mk op lit head name hi lo args) = .ok t) {k : Nat} {x : Ex} (hx : args[k]? = some x) (hk : k = 0 ∨ ¬ (op = 14 ∨ op = 15)) : ∃ t, ofR p act x = .ok t := by
 match args, he, h, hx with
 | [], _, _, hx => simp at hx
 | [a], _, h, hx =>
  have h0 : k = 0 := by
   have := (List.getElem?_eq_some_iff.1 hx).1
   simp at this; omega
  subst h0
  simp at hx
  subst hx
  simp only [ofR] at h
  cases ha : ofR p act a with
  | error n => rw [ha] at h; cases h
  | ok s => exact ⟨s, rfl⟩
 | a :: b :: l, he, h, hx =>
  have := two_end he
  subst this
  simp only [ofR] at h
  cases ha : ofR p act a with
  | error n => rw [ha] at h; cases h
  | ok s =>
   rw [ha] at h
   have hk2 : k = 0 ∨ k = 1 := by
    have := (List.getElem?_eq_some_iff.1 hx).1
    simp at this; omega
   rcases hk2 with rfl | rfl
   ·simp at hx; subst hx; exact ⟨s, ha⟩
   ·simp at hx
    subst hx
    rcases hk with hk | hk
    ·cases hk
    ·simp only [if_neg hk] at h
     cases hb : ofR p act b with
     | error n => rw [hb] at h; cases h
     | ok t => exact ⟨t, rfl⟩
theorem firstT_all {p : Pg} {d : Int} : ∀ (l : List It) (i : Nat), (firstT p l i d).2 = 0 → ∀ x ∈ l, errN (itemR p x) = 0
 | [], _, _, x, hx => by simp at hx
 | y :: l, i, h, x, hx => by
  rw [firstT] at h
  split at h
  ·rename_i h0
   rcases List.mem_cons.1 hx with rfl | hx
   ·exact h0
   ·exact firstT_all l (i + 1) h x hx
  ·rename_i h0
   exact absurd h h0
def exOf : St → Ex
 | .mk _ _ _ e _ _ => e
def opOf : Ex → Int
 | .mk op _ _ _ _ _ _ => op
theorem key_typed {p : Pg} {e : Ex} (h : errN (keyR p e) = 0) : ∃ t, ofR p (-1) e = .ok t := by
 unfold keyR at h
 cases ho : ofR p (-1) e with
 | error n => rw [ho] at h; exact absurd h (ofR_err _ _ _ ho)
 | ok t => exact ⟨t, rfl⟩
/-- Which expressions of an item a program has that is well. -/
structure Whole8 (p : Pg) (x : It) : Prop where
 stmt : x.kind = 10 → opOf (exOf x.s) ≠ 0 → mayE (exOf x.s) = true ∧ ∃ t, ofR p x.a (exOf x.s) = .ok t
 key : x.kind = 12 → ∃ (i : Nat) (hi : i < p.tables.length) (j : Nat) (hj : j < p.tables[i].keys.length), x.a = (i : Int) ∧ x.b = (j : Int) ∧ mayE p.tables[i].keys[j].e = true ∧ ∃ t, ofR p (-1) p.tables[i].keys[j].e = .ok t
 next : x.kind = 6 → ∃ (i : Nat) (hi : i < p.states.length), x.a = (i : Int) ∧ ∀ e ∈ p.states[i].keys, mayE e = true ∧ ∃ t, ofR p (-1) e = .ok t
theorem whole8 {p : Pg} (hm : mayP p = true) : ∀ x ∈ itemsP p, (x.kind = 10 → ∃ d, mayS x.s d = true) → errN (itemR p x) = 0 → Whole8 p x := by
 have no : ∀ {k : Int} {a b : Int} {s : St}, k ≠ 6 → k ≠ 10 → k ≠ 12 → Whole8 p ⟨k, a, b, s⟩ := fun h6 h10 h12 => ⟨fun h => absurd h h10, fun h => absurd h h12, fun h => absurd h h6⟩
 refine items_elim ?_ ?_ ?_ ?_ ?_ ?_ ?_ ?_ ?_ ?_ ?_ ?_ ?_ ?_ ?_
 ·intros; exact no (by decide) (by decide) (by decide)
 ·intros; exact no (by decide) (by decide) (by decide)
 ·intros; exact no (by decide) (by decide) (by decide)
 ·intros; exact no (by decide) (by decide) (by decide)
 ·intros; exact no (by decide) (by decide) (by decide)
 ·intro i f hi _ he
  obtain ⟨hl, hf⟩ := List.getElem?_eq_some_iff.1 hi
  refine ⟨fun h => absurd h (show ¬ ((6 : Int) = 10) by decide), fun h => absurd h (show ¬ ((6 : Int) = 12) by decide), fun _ => ⟨i, hl, rfl, ?_⟩⟩
  rw [hf]
  intro e hem
  rw [show itemR p ⟨6, (i : Int), 0, zSt⟩ = firstE (keyR p) f.keys from by simp [itemR, hi]] at he
  have hk := firstE_ok (errN_ok (firstE_err (fun a n h => keyR_err h) f.keys) he) e hem
  refine ⟨?_, key_typed (by rw [hk]; rfl)⟩
  simp only [mayP, Bool.and_eq_true] at hm
  obtain ⟨⟨⟨⟨⟨⟨⟨_, _⟩, _⟩, hst⟩, _⟩, _⟩, _⟩, _⟩ := hm
  have := List.all_eq_true.1 hst f (List.mem_of_getElem? hi)
  unfold saB at this
  rw [Bool.and_eq_true] at this
  have h := this.2
  split at h
  ·simp only [Bool.and_eq_true, List.all_eq_true] at h
   exact h.1.2 e hem
  ·simp only [Bool.and_eq_true, List.isEmpty_iff] at h
   rw [h.1.2] at hem; simp at hem
 ·intros; exact no (by decide) (by decide) (by decide)
 ·intros; exact no (by decide) (by decide) (by decide)
 ·intros; exact no (by decide) (by decide) (by decide)
 ·intro a st h10 he
  obtain ⟨d, hd⟩ := h10 rfl
  refine ⟨fun _ hop => ?_, fun h => absurd h (show ¬ ((10 : Int) = 12) by decide), fun h => absurd h (show ¬ ((10 : Int) = 6) by decide)⟩
  rw [show itemR p ⟨10, a, 0, st⟩ = stR p a st from by simp [itemR]] at he
  obtain ⟨kind, head, name, e, thn, els⟩ := st
  have hno : noEx e = true → opOf e = 0 := fun h => by
   obtain ⟨op, lit, eh, en, hi, lo, args⟩ := e
   simp only [noEx, Bool.and_eq_true, decide_eq_true_eq] at h
   exact h.1.1.1.1.1.1
  have hof : (kind = 1 ∨ kind = 2 ∨ kind = 5) → ∃ t, ofR p a e = .ok t := fun hk => by
   cases ho : ofR p a e with
   | ok t => exact ⟨t, rfl⟩
   | error n =>
    exfalso
    have hn := ofR_err _ _ _ ho
    rcases hk with rfl | rfl | rfl
    ·simp only [stR, if_true, goesR, ho] at he; exact hn he
    ·simp [stR, ho, errN] at he; exact hn he
    ·simp [stR, ho, errN] at he; exact hn he
  rw [mayS] at hd
  show mayE e = true ∧ ∃ t, ofR p a e = .ok t
  repeat' split at hd
  ·rename_i h; simp only [Bool.and_eq_true] at hd; exact ⟨hd.2, hof (.inl h)⟩
  ·rename_i h; simp only [Bool.and_eq_true] at hd; exact ⟨hd.1.1.2, hof (.inr (.inl h))⟩
  ·simp only [Bool.and_eq_true] at hd; exact absurd (hno hd.2) hop
  ·simp only [Bool.and_eq_true] at hd; exact absurd (hno hd.2) hop
  ·rename_i h; simp only [Bool.and_eq_true] at hd; exact ⟨hd.2, hof (.inr (.inr h))⟩
  ·simp only [Bool.and_eq_true] at hd; exact absurd (hno hd.2) hop
  ·cases hd
 ·intros; exact no (by decide) (by decide) (by decide)
 ·intro i j f g hi hj _ he
  obtain ⟨hl, hf⟩ := List.getElem?_eq_some_iff.1 hi
  have hm' := hm
  simp only [mayP, Bool.and_eq_true] at hm'
  have ht := List.all_eq_true.1 hm'.1.1.2 f (List.mem_of_getElem? hi)
  simp only [taB, Bool.and_eq_true, List.all_eq_true] at ht
  have hk := ht.1.1.1.1.1.2 g (List.mem_of_getElem? hj)
  simp only [kyB, Bool.and_eq_true] at hk
  subst hf
  obtain ⟨hl2, hg⟩ := List.getElem?_eq_some_iff.1 hj
  refine ⟨fun h => absurd h (show ¬ ((12 : Int) = 10) by decide), fun _ => ⟨i, hl, j, hl2, rfl, rfl, by rw [hg]; exact hk.1, ?_⟩, fun h => absurd h (show ¬ ((12 : Int) = 6) by decide)⟩
  rw [show itemR p ⟨12, (i : Int), (j : Int), zSt⟩ = tabKeyR p p.tables[i].keys j p.tables[i].keys[j] from by simp [itemR, hi, List.getElem?_eq_getElem hl2]] at he
  unfold tabKeyR at he
  cases hkk : keyR p p.tables[i].keys[j].e with
  | error n => rw [hkk] at he; exact absurd he (keyR_err hkk)
  | ok u => exact key_typed (by rw [hkk]; rfl)
 ·intros; exact no (by decide) (by decide) (by decide)
 ·intros; exact no (by decide) (by decide) (by decide)
 ·intros; exact no (by decide) (by decide) (by decide)
end Go.Proofs.YtbbdhknagofghaaGreat
/-! TypesWhole: typed, of an expression that has a type. -/
namespace Go.Proofs.YtbbdhknagofghaaGreat
open Go.RowKit
set_option maxRecDepth 100000 in
set_option maxHeartbeats 8000000 in
theorem typed_any {m : Int} (A1 A2 A3 A4 A5 A6 A7 : Option Addr) (p : Pg) (c1 c2 c3 c4 c5 c6 c7 : Nat) (hm : wideP p = true) (act : Int) (B : Nat) (h0 : 0 < B) (e : Ex) : mayE e = true → (∃ t, ofR p act e = .ok t) → ∀ (cs : List Value) (w : World), B ≤ w.heap.size → w.cell? ⟨0, 0, none⟩ = some (.int .i64 m) → PgS w B A1 A2 A3 A4 A5 A6 A7 p → rEx w B cs e →
  Calls Tryz.prog 10 #[.agg #[.slice A1 p.headers.length c1, .slice A2 p.metas.length c2, .slice A3 p.states.length c3, .slice A4 p.actions.length c4, .slice A5 p.tables.length c5, .slice A6 p.control.length c6, .slice A7 p.emit.length c7], .int .i64 act, .agg cs.toArray] w fun z w' => z = .returned (.bool true) ∧ Below w.heap.size w w' := by
 induction e using Ex.ind with
 | h op lit head name hi lo args ih =>
  intro hme ⟨t, ht⟩ cs w hB hz hP hr
  have hr' := hr
  obtain ⟨A, cap, rfl, -, -, -, -, -, -, hs⟩ := RE.inv hr
  have hl := hs.len
  have hae : allE (.mk op lit head name hi lo args) = true := by simp only [mayE, Bool.and_eq_true] at hme; exact hme.2
  have hok := ofR_wide hm act _ hae t ht
  have harg : ∀ (k : Nat) (x : Ex), args[k]? = some x → (k = 0 ∨ ¬ (op = 14 ∨ op = 15)) → mayE x = true ∧ ∃ t, ofR p act x = .ok t := fun k x hx hk => ⟨mayE_arg hme (List.mem_of_getElem? hx), typed_arg hae ht hx hk⟩
  show Calls _ _ #[.agg #[.slice A1 p.headers.length c1, .slice A2 p.metas.length c2, .slice A3 p.states.length c3, .slice A4 p.actions.length c4, .slice A5 p.tables.length c5, .slice A6 p.control.length c6, .slice A7 p.emit.length c7], .int .i64 act, .agg #[.int .u8 op, .int .i64 lit.1, .int .u64 lit.2.1, .int .u64 lit.2.2, .string head, .string name, .int .i64 hi, .int .i64 lo, .slice A args.length cap]] _ _
  obtain ⟨wu, hwu, hsu, hbu, hcu, -⟩ := box1 w #[.slice A1 p.headers.length c1, .slice A2 p.metas.length c2, .slice A3 p.states.length c3, .slice A4 p.actions.length c4, .slice A5 p.tables.length c5, .slice A6 p.control.length c6, .slice A7 p.emit.length c7] 30
  obtain ⟨we, hwe, hse, hbe, hce, -⟩ := box1 wu #[.int .u8 op, .int .i64 lit.1, .int .u64 lit.2.1, .int .u64 lit.2.2, .string head, .string name, .int .i64 hi, .int .i64 lo, .slice A args.length cap] 45
  have hw := hbu.trans (hbe.mono (by omega))
  have cu := fun i => (hbe.cell (p := ⟨w.heap.size, i, none⟩) (by show w.heap.size < _; omega)).trans (hcu i)
  simp only [hsu] at hce
  obtain ⟨u0, u1, u2, u3, u4, u5, u6⟩ := row7 cu
  obtain ⟨e0, e1, e2, e3, e4, e5, e6, e7, e8⟩ := row9 hce
  have hl1 : w.heap.size < we.heap.size := by omega
  have hl2 : w.heap.size + 1 < we.heap.size := by omega
  have hBe : B ≤ we.heap.size := by omega
  have hlt0 : 0 < w.heap.size := by omega
  have hX := hide (show Calls Tryz.prog 16 #[.agg #[.slice A1 p.headers.length c1, .slice A2 p.metas.length c2, .slice A3 p.states.length c3, .slice A4 p.actions.length c4, .slice A5 p.tables.length c5, .slice A6 p.control.length c6, .slice A7 p.emit.length c7], .int .i64 act, .agg #[.int .u8 op, .int .i64 lit.1, .int .u64 lit.2.1, .int .u64 lit.2.2, .string head, .string name, .int .i64 hi, .int .i64 lo, .slice A args.length cap]] we _ from tOf_any A1 A2 A3 A4 A5 A6 A7 p c1 c2 c3 c4 c5 c6 c7 (m := m) (act := act) (B := B) hm (.mk op lit head name hi lo args) _ we hBe h0 (zcell hlt0 hz hw) (hP.below (hw.mono hB)) (sta_ex.keep hr' fun q hq => (hw.mono hB).cell hq))
  have hIH := hide (fun (k : Nat) (x : Ex) (hx : args[k]? = some x) (hk : k = 0 ∨ ¬ (op = 14 ∨ op = 15)) (ecs : List Value) (W : World) (hW : Below we.heap.size we W) (hrx : rEx w B ecs x) =>
   ih x (List.mem_of_getElem? hx) (harg k x hx hk).1 (harg k x hx hk).2 ecs W (Nat.le_trans hBe hW.size) (zcell hlt0 hz (hw.trans (hW.mono (by omega)))) (hP.below ((hw.trans (hW.mono (by omega))).mono hB)) (sta_ex.keep hrx fun q hq => ((hw.trans (hW.mono (by omega))).mono hB).cell hq))
  rw [show askR p act (.mk op lit head name hi lo args) = .ok t from by unfold askR; rw [if_pos hme]; exact ht] at hX
  obtain ⟨tw, tr, tf⟩ := t
  have hX1 := hide (show Calls Tryz.prog _ _ we fun e w' => e = .returned (.tuple #[.agg #[.int .i64 tw, .bool tr, .bool tf], .int .i64 0]) ∧ Below we.heap.size we w' from hX.out)
  have hS := hide (hs.below sta_ex (hw.mono hB))
  have hrw := hide (fun (ecs : List Value) (x : Ex) (h : rEx we B ecs x) => (show rEx w B ecs x from sta_ex.keep h fun q hq => ((hw.mono hB).cell hq).symm))
  have hw' := hide hw
  clear hce hcu cu hbu hbe hw hX hr hr' hs hP hz harg hme hae ht ih
  replace hse := hide hse
  have h3 : (tr = true ∧ tf = false) ∨ (tr = false ∧ tf = true) ∨ (tr = false ∧ tf = false ∧ 1 ≤ tw ∧ tw ≤ 128) := by
   cases tr <;> cases tf
   ·exact .inr (.inr ⟨rfl, rfl, hok.2 rfl rfl⟩)
   ·exact .inr (.inl ⟨rfl, rfl⟩)
   ·exact .inl ⟨rfl, rfl⟩
   ·exact absurd ⟨rfl, rfl⟩ hok.1
  clear hok
  have hd : tr = false → tf = false → Hid (decide (tw < 1) = false ∧ decide (128 < tw) = false) := fun h1 h2 => by
   subst h1 h2
   rcases h3 with ⟨h, -⟩ | ⟨-, h⟩ | ⟨-, -, d1, d2⟩
   ·cases h
   ·cases h
   ·exact hide ⟨decide_eq_false (by omega), decide_eq_false (by omega)⟩
  rcases h3 with ⟨rfl, rfl⟩ | ⟨rfl, rfl⟩ | ⟨rfl, rfl, d1, d2⟩
  case' inr.inr => obtain ⟨d1q, d2q⟩ := (hd rfl rfl).out
  all_goals
   clear hd
   go_enter Tryz.func10, Tryz.ntmps10
   go_wp2_with (go_at_call 16; refine hX1.out.mono ?_; rintro e w1 ⟨rfl, hb1⟩; have kb1 := bcell' hb1; have q1 := Nat.lt_of_lt_of_le hl1 hb1.size; have q2 := Nat.lt_of_lt_of_le hl2 hb1.size)
   have hs0 := hide (fun (o : Obj) => hb1.alloc hb1.size o)
   clear kb1
   go_loopw [51] (fun q wr => ∃ k : Nat, k ≤ args.length ∧ q = .int .i64 k ∧ Hid (Below we.heap.size we wr)) (fun q _ => args.length - (intOf q).toNat)
   case atStart => exact ⟨0, Nat.zero_le _, rfl, hide (hs0.out _)⟩
   case round =>
    clear hs0
    obtain ⟨k, hk, rfl, hbr⟩ := hrel
    have hzr := hbr.out.size
    have hc := bcell' hbr.out
    have r1 := Nat.lt_of_lt_of_le hl1 hzr
    have r2 := Nat.lt_of_lt_of_le hl2 hzr
    by_cases hlt : k < args.length
    ·obtain ⟨x, hxk⟩ : ∃ x, args[k]? = some x := ⟨_, List.getElem?_eq_getElem hlt⟩
     obtain ⟨b, o, ecs, hA, hb, hel, hcell, hrx⟩ := hS.out.2 k _ hxk
     subst hA
     have hltz : (k : Int) < (args.length : Int) := by omega
     have hX0 := fun (hk : k = 0 ∨ ¬ (op = 14 ∨ op = 15)) (W : World) (hW : Below we.heap.size we W) => hIH.out k x hxk hk ecs W hW (hrw.out _ _ hrx)
     clear hxk
     obtain ⟨op', lit', head', name', hi', lo', args'⟩ := x
     obtain ⟨A', cap', rfl, -, -, -, -, -, -, hs'⟩ := RE.inv hrx
     have hl' := hs'.len
     obtain ⟨x0, x1, x2, x3, x4, x5, x6, x7, x8⟩ := srow9 hcell
     obtain ⟨wx, hwx, hzx, hbx, hcx, -⟩ := box1 wr #[.int .u8 op', .int .i64 lit'.1, .int .u64 lit'.2.1, .int .u64 lit'.2.2, .string head', .string name', .int .i64 hi', .int .i64 lo', .slice A' args'.length cap'] 45
     obtain ⟨z0, z1, z2, z3, z4, z5, z6, z7, z8⟩ := row9 hcx
     have hbX := hbr.out.trans (hbx.mono hzr)
     have kx := bcell' hbX
     have s1 := Nat.lt_of_lt_of_le hl1 hbX.size
     have s2 := Nat.lt_of_lt_of_le hl2 hbX.size
     have s3 : wr.heap.size < wx.heap.size := by omega
     have hb' : b < we.heap.size := by omega
     have hX : Hid ((k = 0 ∨ ¬ (op = 14 ∨ op = 15)) → Calls Tryz.prog 10 #[.agg #[.slice A1 p.headers.length c1, .slice A2 p.metas.length c2, .slice A3 p.states.length c3, .slice A4 p.actions.length c4, .slice A5 p.tables.length c5, .slice A6 p.control.length c6, .slice A7 p.emit.length c7], .int .i64 act, .agg #[.int .u8 op', .int .i64 lit'.1, .int .u64 lit'.2.1, .int .u64 lit'.2.2, .string head', .string name', .int .i64 hi', .int .i64 lo', .slice A' args'.length cap']] wx fun z w' => z = .returned (.bool true) ∧ Below wx.heap.size wx w') := hide (fun hk => hX0 hk wx hbX)
     replace hbX := hide hbX
     clear hcell hrx hX0 hs' hel hcx hbx hIH hrw
     by_cases hk0 : k = 0
     ·have hY := hide (hX.out (.inl hk0))
      clear hX
      subst hk0
      simp only [Nat.zero_mul, Nat.add_zero] at x0 x1 x2 x3 x4 x5 x6 x7 x8
      go_wp2_with (go_at_call 10; refine hY.out.mono ?_; rintro e w2 ⟨rfl, hw2⟩)
      go_roundw
      case rel => exact ⟨1, by omega, by go_num, hide (hbX.out.trans (hw2.mono hbX.out.size))⟩
      case measure => simp [intOf]; omega
     ·have hkq : ((k : Int) == 0) = false := beq_eq_false_iff_ne.2 (by omega)
      by_cases h14 : op = 14
      ·subst h14
       clear hX
       go_wp2
       go_roundw
       case rel => exact ⟨k + 1, by omega, by go_num, hbX⟩
       case measure => simp [intOf]; omega
      ·have h14q : (op != 14) = true := bne_iff_ne.2 h14
       by_cases h15 : op = 15
       ·subst h15
        clear hX
        go_wp2
        go_roundw
        case rel => exact ⟨k + 1, by omega, by go_num, hbX⟩
        case measure => simp [intOf]; omega
       ·have h15q : (op != 15) = true := bne_iff_ne.2 h15
        have hY := hide (hX.out (.inr (by omega)))
        clear hX
        go_wp2_with (go_at_call 10; refine hY.out.mono ?_; rintro e w2 ⟨rfl, hw2⟩)
        go_roundw
        case rel => exact ⟨k + 1, by omega, by go_num, hide (hbX.out.trans (hw2.mono hbX.out.size))⟩
        case measure => simp [intOf]; omega
    ·go_wp2
     go_ret
     exact ⟨rfl, hw'.out.trans (hbr.out.mono (by omega))⟩
end Go.Proofs.YtbbdhknagofghaaGreat
/-! Layer 7: stmts, the walk. -/
namespace Go.Proofs.YtbbdhknagofghaaGreat
open Go.RowKit
attribute [local go_sem] Oper.semAt_some
def TellIs (l B B0 : Nat) (w0 : World) (xs : List It) (g : Nat → Bool) (J S : Nat → World → Prop) (L : List St) : Prop :=
 ∀ (a : Int) (A : Option Addr) (cap : Nat) (W : World) (j : Nat), Sl 14 rSt w0 B A L → B0 ≤ W.heap.size → (∀ (i : Nat) (x : It), (itemsL a L)[i]? = some x → xs[j + i]? = some x) → J j W →
  Calls Tryz.prog 77 #[.int .i64 a, .slice A L.length cap, .func (.yield l) #[] #[]] W (Told xs.length g J S W j (itemsL a L).length)
def TellIn (l B B0 : Nat) (w0 : World) (xs : List It) (g : Nat → Bool) (J S : Nat → World → Prop) : St → Prop
 | .mk _ _ _ _ thn els => TellIs l B B0 w0 xs g J S thn ∧ TellIs l B B0 w0 xs g J S els
set_option maxRecDepth 100000 in
set_option maxHeartbeats 4000000 in
theorem stmts_of {l B B0 : Nat} {w0 : World} {xs : List It} {g : Nat → Bool} {J S : Nat → World → Prop} (hY : Yl l B xs g J S) (hown : OwnFrom B0 J) (hJK : ∀ k W, J k W → Below B w0 W) (hB0 : B ≤ B0)
  (L : List St) (ih : ∀ x ∈ L, TellIn l B B0 w0 xs g J S x) : TellIs l B B0 w0 xs g J S L := by
 intro a A cap W j hS hW0 hx hJ
 have hl := hS.len
 refine (callsIn_wide (n := 3)).1 (callsIn_of_wp_marks Tryz.func77 rfl trivial ?_)
 simp only [Tryz.ntmps77, List.size_toArray, List.length_cons, List.length_nil, Nat.reduceAdd, Nat.reduceSub, Array.replicate_succ, Array.replicate_zero, List.push_toArray, List.append_toArray, List.nil_append, List.cons_append]
 replace ih := hide ih
 replace hS := hide hS
 replace hx := hide hx
 replace hJK := hide hJK
 gi_wp2
 refine wpIn_loop (fun a1 W' => ∃ (k : Nat) (u8 u12 u13 u14 u15 u16 u17 u18 u19 u20 u21 u22 u23 u24 u25 u26 u27 u28 u29 u30 u31 u32 u33 u34 u35 u36 u37 : Value), k ≤ L.length ∧ runB g j (itemsL a (L.take k)).length = true ∧ J (j + (itemsL a (L.take k)).length) W' ∧ Kp exI W W' ∧
   a1 = { tmps := #[.int .i64 a, .slice A L.length cap, .func (.yield l) #[] #[], undef, undef, undef, .bool false, undef, u8, .slice A L.length cap, .int .i64 (L.length : Int), .int .i64 (k : Int), u12, u13, u14, u15, u16, u17, u18, u19, u20, u21, u22, u23, u24, u25, u26, u27, u28, u29, u30, u31, u32, u33, u34, u35, u36, u37], defers := [] })
   (muSlot 11 L.length) ⟨0, undef, undef, undef, undef, undef, undef, undef, undef, undef, undef, undef, undef, undef, undef, undef, undef, undef, undef, undef, undef, undef, undef, undef, undef, undef, undef, undef, Nat.zero_le _, by simp [itemsL, runB_zero], by simpa [itemsL] using hJ, Kp.refl _ _, rfl⟩ ?_
 rintro a1 W' ⟨k, u8, u12, u13, u14, u15, u16, u17, u18, u19, u20, u21, u22, u23, u24, u25, u26, u27, u28, u29, u30, u31, u32, u33, u34, u35, u36, u37, hk, hrun, hJ', hkp, rfl⟩
 by_cases hlt : k < L.length
 ·have hlt1 : (k : Int) < (L.length : Int) := by omega
  have hbW := hJK.out _ _ hJ'
  obtain ⟨b, o, ecs, hA, hb, hel, hcell, hr⟩ := (hS.out.below sta_st hbW).2 k _ (List.getElem?_eq_getElem hlt)
  subst hA
  have hin := ih.out _ (List.getElem_mem hlt)
  have hia := items_at a hlt
  have hit := items_take a hlt
  have hr' := hr
  generalize L[k] = x at hr hr' hin hia hit
  obtain ⟨kind, head, name, e, thn, els⟩ := x
  obtain ⟨es, A1, c1, A2, c2, rfl, h0, h1, h2, he, hT, hE⟩ := RS.inv hr
  obtain ⟨op, lit, ehead, ename, hi, lo, args⟩ := e
  obtain ⟨Ae, ecap, rfl, -, -, -, -, -, -, hs⟩ := RE.inv he
  have l1 := hT.len
  have l2 := hE.len
  have l3 := hs.len
  obtain ⟨x0, x1, x2, x3, x4, x5, x6, x7, x8, x9, x10, x11, x12, x13⟩ := srow14 hcell
  obtain ⟨W1, hW1⟩ : ∃ W1, W'.alloc (.cells #[.int .u8 kind, .string head, .string name, .int .u8 op, .int .i64 lit.1, .int .u64 lit.2.1, .int .u64 lit.2.2, .string ehead, .string ename, .int .i64 hi, .int .i64 lo, .slice Ae args.length ecap, .slice A1 thn.length c1, .slice A2 els.length c2] 47) = W1 := ⟨_, rfl⟩
  have hb1 : Below W'.heap.size W' W1 := by rw [← hW1]; exact (Below.refl _ _).alloc (Nat.le_refl _) _
  have hbox : W1.heap[W'.heap.size]? = some (.cells #[.int .u8 kind, .string head, .string name, .int .u8 op, .int .i64 lit.1, .int .u64 lit.2.1, .int .u64 lit.2.2, .string ehead, .string ename, .int .i64 hi, .int .i64 lo, .slice Ae args.length ecap, .slice A1 thn.length c1, .slice A2 els.length c2] 47) := by rw [← hW1]; exact World.alloc_heap_new W' _
  have hc1 := heap_cells hbox
  obtain ⟨v0, v1, v2, v3, v4, v5, v6, v7, v8, v9, v10, v11, v12, v13⟩ := row14 hc1
  have hBW : B ≤ W'.heap.size := by have := hkp.size; omega
  have hJ1 := own_step_none hown hJ' hb1
  have hk1 := hkp.trans (Kp.of_below exI hb1)
  have hitm : itR B ⟨10, a, 0, .mk kind head name (.mk op lit ehead ename hi lo args) thn els⟩ (.agg #[.int .u8 10, .int .i64 a, .int .i64 0, .int .u8 kind, .string head, .string name, .int .u8 op, .int .i64 lit.1, .int .u64 lit.2.1, .int .u64 lit.2.2, .string ehead, .string ename, .int .i64 hi, .int .i64 lo, .slice Ae args.length ecap, .slice A1 thn.length c1, .slice A2 els.length c2]) W1 :=
   ⟨_, rfl, _, rfl, sta_st.keep hr' fun q hq => hb1.cell (Nat.lt_of_lt_of_le hq hBW)⟩
  have hget : xs[j + (itemsL a (L.take k)).length]? = some ⟨10, a, 0, .mk kind head name (.mk op lit ehead ename hi lo args) thn els⟩ := hx.out _ _ (by
   rw [hia, List.getElem?_append_right (Nat.le_refl _), Nat.sub_self]; rfl)
  obtain ⟨mm, fn, tmps, assign, body, hy, hR⟩ := hY _ _ _ W1 hget hJ1 hitm
  have hg1 : ∀ (i : Nat) (x : It), (itemsL a thn)[i]? = some x → xs[j + (itemsL a (L.take k)).length + 1 + i]? = some x := fun i x hx1 => by
   have := hx.out ((itemsL a (L.take k)).length + (1 + i)) x (by
    rw [hia, List.getElem?_append_right (by omega), Nat.add_sub_cancel_left, itemsS, Nat.add_comm 1 i, List.cons_append, List.getElem?_cons_succ, List.append_assoc, List.getElem?_append_left (List.getElem?_eq_some_iff.1 hx1).1]
    exact hx1)
   rw [← this]; congr 1; omega
  have hg2 : ∀ (i : Nat) (x : It), (itemsL a els)[i]? = some x → xs[j + (itemsL a (L.take k)).length + 1 + (itemsL a thn).length + i]? = some x := fun i x hx1 => by
   have := hx.out ((itemsL a (L.take k)).length + (1 + ((itemsL a thn).length + i))) x (by
    rw [hia, List.getElem?_append_right (by omega), Nat.add_sub_cancel_left, itemsS, Nat.add_comm 1 _, List.cons_append, List.getElem?_cons_succ, List.append_assoc, List.getElem?_append_right (by omega), Nat.add_sub_cancel_left, List.getElem?_append_left (List.getElem?_eq_some_iff.1 hx1).1]
    exact hx1)
   rw [← this]; congr 1; omega
  have hlen : j + (itemsL a (L.take (k + 1))).length = j + (itemsL a (L.take k)).length + 1 + (itemsL a thn).length + (itemsL a els).length := by
   rw [hit, itemsS, List.length_cons, List.length_append]; omega
  have hjk := hide ((List.getElem?_eq_some_iff.1 hget).1)
  have hsuc := hide (show runB g j (itemsL a (L.take (k + 1))).length = (runB g j (itemsL a (L.take k)).length && (g (j + (itemsL a (L.take k)).length) && (runB g (j + (itemsL a (L.take k)).length + 1) (itemsL a thn).length && runB g (j + (itemsL a (L.take k)).length + 1 + (itemsL a thn).length) (itemsL a els).length))) from by
   rw [hit, itemsS, List.length_cons, List.length_append, Nat.add_comm _ 1, runB_add, runB_add, runB_one, runB_add])
  have hle := hide (items_take_le a L (k + 1))
  have hrun' := hide hrun
  have hW1s : W'.heap.size < W1.heap.size := (Array.getElem?_eq_some_iff.1 hbox).1
  have hT0 : Sl 14 rSt w0 B A1 thn := hT.keep sta_st fun q hq => (hbW.cell hq).symm
  have hE0 : Sl 14 rSt w0 B A2 els := hE.keep sta_st fun q hq => (hbW.cell hq).symm
  have hin1 := hide (hin.1 a A1 c1)
  have hin2 := hide (hin.2 a A2 c2)
  replace hit := hide hit
  replace hlen := hide hlen
  replace hg1 := hide hg1
  replace hg2 := hide hg2
  replace hbox := hide hbox
  replace hT0 := hide hT0
  replace hE0 := hide hE0
  clear hia hget hitm hcell hr hr' hT hE hs he hc1 hb1 hJ' hJ hin hbW hel h0 h1 h2 hrun
  gi_wp2
  refine (round_wide0 hR).mono ?_
  rintro e W3 ⟨rfl, h1, h2⟩
  cases hc : g (j + (itemsL a (L.take k)).length) with
  | false =>
   have hS3 := hide (h2 hc)
   have hrN := hide (show runB g j (itemsL a L).length = false from runB_stop (by rw [hsuc.out, hc]; simp) hle.out)
   clear h1 h2 hc
   gi_wp2_with (refine ⟨(fun _ _ => trivial), ?_⟩)
   all_goals exact ⟨_, results_tmp rfl _ _ _, told_no hrN.out ⟨_, hjk.out, hS3.out⟩⟩
  | true =>
   obtain ⟨hJ3, hk3⟩ := h1 hc
   have hbox3 : W3.heap[W'.heap.size]? = some (.cells #[.int .u8 kind, .string head, .string name, .int .u8 op, .int .i64 lit.1, .int .u64 lit.2.1, .int .u64 lit.2.2, .string ehead, .string ename, .int .i64 hi, .int .i64 lo, .slice Ae args.length ecap, .slice A1 thn.length c1, .slice A2 els.length c2] 47) := hk3.same _ _ hbox.out (fun cs t fr e => by cases e; rfl)
   have hc3 := heap_cells hbox3
   have r12 : W3.cell? ⟨W'.heap.size, 12, none⟩ = some (.slice A1 thn.length c1) := hc3 12
   have r13 : W3.cell? ⟨W'.heap.size, 13, none⟩ = some (.slice A2 els.length c2) := hc3 13
   have hz3 : W'.heap.size < W3.heap.size := (Array.getElem?_eq_some_iff.1 hbox3).1
   have hkN := hide (hk1.trans hk3)
   have hcall := hide (hin1.out W3 _ hT0.out (by have := hkN.out.size; omega) hg1.out hJ3)
   replace hbox3 := hide hbox3
   replace hc := hide hc
   clear h1 h2 hJ3 hk3 hc3
   gi_wp2_with fail
   refine ⟨trivial, ?_⟩
   refine (callsIn_wide.2 hcall.out).mono ?_
   rintro e W4 ⟨rfl, h1, h2⟩
   cases hd : runB g (j + (itemsL a (L.take k)).length + 1) (itemsL a thn).length with
   | false =>
    have hS4 := hide (h2 hd)
    have hrN := hide (show runB g j (itemsL a L).length = false from runB_stop (by rw [hsuc.out, hd]; simp) hle.out)
    clear h1 h2 hd
    gi_wp2_with (refine ⟨(fun _ _ => trivial), ?_⟩)
    all_goals exact ⟨_, results_tmp rfl _ _ _, told_no hrN.out hS4.out⟩
   | true =>
    obtain ⟨hJ4, hk4⟩ := h1 hd
    have hbox4 : W4.heap[W'.heap.size]? = some (.cells #[.int .u8 kind, .string head, .string name, .int .u8 op, .int .i64 lit.1, .int .u64 lit.2.1, .int .u64 lit.2.2, .string ehead, .string ename, .int .i64 hi, .int .i64 lo, .slice Ae args.length ecap, .slice A1 thn.length c1, .slice A2 els.length c2] 47) := hk4.same _ _ hbox3.out (fun cs t fr e => by cases e; rfl)
    have hc4 := heap_cells hbox4
    have q12 : W4.cell? ⟨W'.heap.size, 12, none⟩ = some (.slice A1 thn.length c1) := hc4 12
    have q13 : W4.cell? ⟨W'.heap.size, 13, none⟩ = some (.slice A2 els.length c2) := hc4 13
    have hz4 : W'.heap.size < W4.heap.size := (Array.getElem?_eq_some_iff.1 hbox4).1
    have hkM := hide (hkN.out.trans hk4)
    have hcall2 := hide (hin2.out W4 _ hE0.out (by have := hkM.out.size; omega) hg2.out hJ4)
    replace hd := hide hd
    clear h1 h2 hJ4 hk4 hc4 hbox4 hcall
    gi_wp2_with fail
    refine ⟨trivial, ?_⟩
    refine (callsIn_wide.2 hcall2.out).mono ?_
    rintro e W5 ⟨rfl, h1, h2⟩
    cases hf : runB g (j + (itemsL a (L.take k)).length + 1 + (itemsL a thn).length) (itemsL a els).length with
    | false =>
     have hS5 := hide (h2 hf)
     have hrN := hide (show runB g j (itemsL a L).length = false from runB_stop (by rw [hsuc.out, hf]; simp) hle.out)
     clear h1 h2 hf
     gi_wp2
     exact ⟨_, results_tmp rfl _ _ _, told_no hrN.out hS5.out⟩
    | true =>
     obtain ⟨hJ5, hk5⟩ := h1 hf
     have hJN := hide (show J (j + (itemsL a (L.take (k + 1))).length) W5 from by rw [hlen.out]; exact hJ5)
     have hkP := hide (hkM.out.trans hk5)
     have hrN := hide (show runB g j (itemsL a (L.take (k + 1))).length = true from by rw [hsuc.out, hrun'.out, hc.out, hd.out, hf]; rfl)
     clear h1 h2 hJ5 hk5 hf
     gi_wp2
     refine ⟨⟨k + 1, _, _, _, _, _, _, _, _, _, _, _, _, _, _, _, _, _, _, _, _, _, _, _, _, _, _, _, by omega, hrN.out, hJN.out, hkP.out, rfl⟩, ?_⟩
     simp only [muSlot, List.getElem?_toArray, List.getElem?_cons_succ, List.getElem?_cons_zero]
     omega
 ·have hlt1 : ¬ (k : Int) < (L.length : Int) := by omega
  have hke : k = L.length := by omega
  subst hke
  have hJN := hide hJ'
  have hkN := hide hkp
  have hrN := hide hrun
  rw [List.take_length] at hJN hrN
  clear hJ' hkp hJ hrun
  gi_wp2
  exact ⟨_, results_tmp rfl _ _ _, told_yes hrN.out hJN.out hkN.out⟩
theorem stmts_in {l B B0 : Nat} {w0 : World} {xs : List It} {g : Nat → Bool} {J S : Nat → World → Prop} (hY : Yl l B xs g J S) (hown : OwnFrom B0 J) (hJK : ∀ k W, J k W → Below B w0 W) (hB0 : B ≤ B0) (s : St) : TellIn l B B0 w0 xs g J S s := by
 induction s using St.ind with
 | h kind head name e thn els ih1 ih2 => exact ⟨stmts_of hY hown hJK hB0 thn ih1, stmts_of hY hown hJK hB0 els ih2⟩
theorem stmts_tells {l B B0 : Nat} {w0 : World} {xs : List It} {g : Nat → Bool} {J S : Nat → World → Prop} (hY : Yl l B xs g J S) (hown : OwnFrom B0 J) (hJK : ∀ k W, J k W → Below B w0 W) (hB0 : B ≤ B0) (L : List St) : TellIs l B B0 w0 xs g J S L :=
 stmts_of hY hown hJK hB0 L fun x _ => stmts_in hY hown hJK hB0 x
end Go.Proofs.YtbbdhknagofghaaGreat

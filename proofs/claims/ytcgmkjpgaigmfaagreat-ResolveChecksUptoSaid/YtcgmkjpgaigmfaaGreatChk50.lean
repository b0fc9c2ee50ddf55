import Derived.Test.YtcgmkjpgaigmfaaGreatChk49
import Derived.Test.YtcgmkjpgaigmfaaGreatChk24
import Derived.Test.YtcgmkjpgaigmfaaGreatChk45
import Derived.Test.YtcgmkjpgaigmfaaGreatChk48
import Derived.Deep.DeepHandedRow
import Derived.Carry
set_option linter.all false
/-! Openers: how many statements a reading has at most. -/
namespace Go.Proofs.YtcgmkjpgaigmfaaGreat
open Go.ChangeShapes Go.WideShapes Go.ChangeAt Go.RowKit Go.Deep
theorem sum_bulk {α H : Type} {mu : α → Nat} : ∀ (len : Nat) (D : Nat → DataW H) (xs : List α), xs.length = len → (∀ i y, xs[i]? = some y → mu y ≤ Rows.uptoBulk (D i)) → (xs.map mu).sum ≤ Rows.uptoBulkAll ((List.range len).map D)
 | 0, D, xs, h, _ => by simp [List.eq_nil_of_length_eq_zero h]
 | len + 1, D, [], h, _ => by simp at h
 | len + 1, D, x :: xs, h, hm => by
  have ih := sum_bulk len (fun i => D (i + 1)) xs (by simpa using h) fun i y hy => hm (i + 1) y (by simpa using hy)
  have h0 := hm 0 x rfl
  rw [List.range_succ_eq_map, List.map_cons, List.map_cons, List.map_map]
  simp only [Rows.uptoBulkAll, List.sum_cons]
  have e : List.map (D ∘ Nat.succ) (List.range len) = List.map (fun i => D (i + 1)) (List.range len) := rfl
  rw [e]
  omega
def rC {α : Type} (R : CR α) (mu : α → Nat) (m : Nat) : CR α := fun w B cs a => R w B cs a ∧ mu a ≤ m
theorem rdb_sliceC {α : Type} {R : CR α} {t e : TypeId} {k m : Nat} (mu : α → Nat) (ht : Tryz.prog.underlying t = some (.slice e)) (hk : Tryz.prog.cellsOf e = k) (hk0 : 0 < k) (he : ∀ m', m' ≤ m → RdB m' e (rC R mu m')) :
  RdB (m + 1) t (rC (rSl k R) (fun xs => (xs.map mu).sum) m) := fun H enc w fuel cs x h hb => by
 rcases open_slice ht h with ⟨rfl, _⟩ | ⟨a, len, cap, mm, n, D, Pl, rfl, _, hl, hm, hmm, hxx, hx⟩
 ·exact ⟨[], ⟨none, 0, rfl, Sl.nil_⟩, by simp⟩
 ·simp only [if_true] at hmm
  subst hmm
  have hbA : Rows.uptoBulkAll ((List.range len).map D) ≤ m := by
   rw [hxx] at hb
   simp only [Rows.uptoBulk] at hb
   omega
  have hbD : ∀ i, i < len → Rows.uptoBulk (D i) ≤ m := fun i hi => by
   have := bulk_mem (d := D i) (l := (List.range len).map D) (List.mem_map.2 ⟨i, List.mem_range.2 hi, rfl⟩)
   omega
  obtain ⟨xs, hlen, hxs⟩ := exists_list (p := fun i y => (∃ ecs : List Value, ecs.length = k ∧ (∀ j, j < k → w.cell? ((a.add (i * k)).add j) = ecs[j]?) ∧ R w w.heap.size ecs y) ∧ mu y ≤ Rows.uptoBulk (D i)) len (fun i hi => by
   obtain ⟨cs', hc, htr⟩ := hx i (by omega)
   rw [hk] at hc
   obtain ⟨_, h1, h2⟩ := World.cells?_some hc
   obtain ⟨y, hy, hmu⟩ := he (Rows.uptoBulk (D i)) (hbD i hi) H enc w n cs' _ htr (Nat.le_refl _)
   exact ⟨y, ⟨cs', h1, h2, hy⟩, hmu⟩)
  refine ⟨xs, ⟨some a, mm, by rw [hlen], by omega, fun i y hy => ?_⟩, Nat.le_trans (sum_bulk len D xs hlen fun i y hy => (hxs i y hy).2) hbA⟩
  have hi : i < len := by rw [← hlen]; exact (List.getElem?_eq_some_iff.1 hy).1
  obtain ⟨⟨ecs0, g1, g2, _⟩, _⟩ := hxs 0 (xs[0]'(by omega)) (List.getElem?_eq_getElem (by omega))
  have hz : w.cell? a = some (ecs0[0]'(by omega)) := by
   have := g2 0 hk0
   rw [List.getElem?_eq_getElem (by omega)] at this
   simpa [Addr.add] using this
  obtain ⟨b, o, rfl⟩ := addr_spot hz
  have hb := World.block_lt_of_cell? w _ hz
  obtain ⟨⟨ecs, h1, h2, h3⟩, _⟩ := hxs i y hy
  have hadd : ∀ j, ((⟨b, o, none⟩ : Addr).add (i * k)).add j = ⟨b, o + i * k + j, none⟩ := fun j => by unfold Addr.add; split <;> split <;> simp_all
  refine ⟨b, o, ecs, rfl, hb, h1, fun j u hu => ?_, h3⟩
  have hj : j < k := by have := (List.getElem?_eq_some_iff.1 hu).1; omega
  rw [← hadd j, h2 j hj, hu]
theorem countL_sum : ∀ l : List St, countL l = (l.map countS).sum
 | [] => rfl
 | s :: l => by simp only [countL, List.map_cons, List.sum_cons, countL_sum l]
theorem len_sum {l : List St} : l.length ≤ (l.map countS).sum := by
 induction l with
 | nil => simp
 | cons x l ih =>
  have : 1 ≤ countS x := by obtain ⟨kind, head, name, e, thn, els⟩ := x; simp only [countS]; omega
  simp only [List.map_cons, List.sum_cons, List.length_cons]; omega
set_option maxRecDepth 20000 in
theorem rdb_stmC : ∀ m : Nat, m ≤ sm → RdB m 75 (rC rSt countS m) := fun m => by
 induction m using Nat.strongRecOn with
 | _ m ih =>
  intro hm H enc w fuel cs x h hb
  obtain ⟨xs, n, _, rfl, hl, hlen, hg⟩ := DataW.trod_struct Tryz.underlying75 h
  rw [ce_Stmt] at hl
  match xs, hlen with
  | [y0, y1, y2, y3, y4, y5], _ =>
   simp only [List.map_cons, List.map_nil, Rows.uptoBulk, Rows.uptoBulkAll] at hb
   have p0 := bulk_pos y0.1
   have p1 := bulk_pos y1.1
   have p2 := bulk_pos y2.1
   have p3 := bulk_pos y3.1
   have p4 := bulk_pos y4.1
   have p5 := bulk_pos y5.1
   match cs, hl with
   | [a0, a1, a2, a3, a4, a5, a6, a7, a8, a9, a10, a11, a12, a13], _ =>
    obtain ⟨v0, e0, h0⟩ := rdb_u8 (m := m) Tryz.underlying5 H enc w n [a0] y0 (by simpa [ce_uint8] using hg 0 _ rfl) (by omega)
    obtain ⟨v1, e1, h1, k1⟩ := rdb_str (m := m) Tryz.underlying9 H enc w n [a1] y1 (by simpa [ce_string] using hg 1 _ rfl) (by omega)
    obtain ⟨v2, e2, h2, k2⟩ := rdb_str (m := m) Tryz.underlying9 H enc w n [a2] y2 (by simpa [ce_string] using hg 2 _ rfl) (by omega)
    obtain ⟨v3, h3⟩ := rdb_Expr hm H enc w n [a3, a4, a5, a6, a7, a8, a9, a10, a11] y3 (by simpa [ce_Expr] using hg 3 _ rfl) (by omega)
    obtain ⟨v4, ⟨A4, c4, e4, h4⟩, k4⟩ := rdb_sliceC (m := Rows.uptoBulk y4.1 - 1) (t := 27) (e := 75) (k := 14) countS Tryz.underlying27 ce_Stmt (by decide) (fun m' hm' => ih m' (by omega) (by omega)) H enc w n [a12] y4 (by simpa [ce_sStmt] using hg 4 _ rfl) (by omega)
    obtain ⟨v5, ⟨A5, c5, e5, h5⟩, k5⟩ := rdb_sliceC (m := Rows.uptoBulk y5.1 - 1) (t := 27) (e := 75) (k := 14) countS Tryz.underlying27 ce_Stmt (by decide) (fun m' hm' => ih m' (by omega) (by omega)) H enc w n [a13] y5 (by simpa [ce_sStmt] using hg 5 _ rfl) (by omega)
    have n4 := len_sum (l := v4)
    have n5 := len_sum (l := v5)
    simp only at k4 k5
    cases e0
    cases e1
    cases e2
    cases e4
    cases e5
    exact ⟨.mk v0 v1 v2 v3 v4 v5, RS.intro (cap := c4) (cap' := c5) ⟨h0, by omega, by omega⟩ ⟨by omega, by omega⟩ h3 h4 h5, by
     simp only [countS, countL_sum]; omega⟩
theorem rdb_stmsC {m : Nat} (hm : m + 1 ≤ sm) : RdB (m + 1) 27 (rC (rSl 14 rSt) countL m) := fun H enc w fuel cs x h hb => by
 obtain ⟨v, h1, h2⟩ := rdb_sliceC (m := m) (t := 27) (e := 75) (k := 14) countS Tryz.underlying27 ce_Stmt (by decide) (fun m' hm' => rdb_stmC m' (by omega)) H enc w fuel cs x h hb
 exact ⟨v, h1, by rw [countL_sum]; exact h2⟩
set_option maxRecDepth 20000 in
theorem rdb_ActionC {m : Nat} (hm : m ≤ sm) : RdB m 42 (rC rAc (fun a : Ac => countL a.body) m) := fun H enc w fuel cs x h hb => by
 obtain ⟨xs, n, _, rfl, hl, hlen, hg⟩ := DataW.trod_struct Tryz.underlying42 h
 rw [ce_Action] at hl
 match xs, hlen with
 | [y0, y1, y2], _ =>
  simp only [List.map_cons, List.map_nil, Rows.uptoBulk, Rows.uptoBulkAll] at hb
  have p0 := bulk_pos y0.1
  have p1 := bulk_pos y1.1
  have p2 := bulk_pos y2.1
  match cs, hl with
  | [a0, a1, a2], _ =>
   obtain ⟨v0, e0, h0, k0⟩ := rdb_str (m := m) Tryz.underlying9 H enc w n [a0] y0 (by simpa [ce_string] using hg 0 _ rfl) (by omega)
   obtain ⟨v1, A1, c1, e1, h1⟩ := rdb_slice' (t := 23) (e := 84) (k := 2) Tryz.underlying23 ce_Field (by decide) (rdb_Field hm) H enc w n [a1] y1 (by simpa [ce_sField] using hg 1 _ rfl) (by omega)
   obtain ⟨v2, ⟨A2, c2, e2, h2⟩, k2⟩ := rdb_stmsC (m := m - 1) (by omega) H enc w n [a2] y2 (by simpa [ce_sStmt] using hg 2 _ rfl) (by omega)
   cases e0
   cases e1
   cases e2
   exact ⟨⟨v0, v1, v2⟩, ⟨A1, c1, A2, c2, rfl, h0, h1, h2⟩, Nat.le_trans k2 (by omega)⟩
/-- How many statements a program has at most. -/
def cntOk (p : Pg) : Prop := countL p.control ≤ sm ∧ (p.actions.map fun a : Ac => countL a.body).sum ≤ sm
set_option maxRecDepth 20000 in
theorem rdb_ProgramC {m : Nat} (hm : m ≤ sm) : RdB m 30 (fun w B cs p => rPg w B cs p ∧ cntOk p) := fun H enc w fuel cs x h hb => by
 obtain ⟨xs, n, _, rfl, hl, hlen, hg⟩ := DataW.trod_struct Tryz.underlying30 h
 rw [ce_Program] at hl
 match xs, hlen with
 | [y0, y1, y2, y3, y4, y5, y6], _ =>
  simp only [List.map_cons, List.map_nil, Rows.uptoBulk, Rows.uptoBulkAll] at hb
  have p0 := bulk_pos y0.1
  have p1 := bulk_pos y1.1
  have p2 := bulk_pos y2.1
  have p3 := bulk_pos y3.1
  have p4 := bulk_pos y4.1
  have p5 := bulk_pos y5.1
  have p6 := bulk_pos y6.1
  match cs, hl with
  | [a0, a1, a2, a3, a4, a5, a6], _ =>
   obtain ⟨v0, A0, c0, e0, h0⟩ := rdb_slice' (t := 22) (e := 38) (k := 2) Tryz.underlying22 ce_Header (by decide) (rdb_Header hm) H enc w n [a0] y0 (by simpa [ce_sHeader] using hg 0 _ rfl) (by omega)
   obtain ⟨v1, A1, c1, e1, h1⟩ := rdb_slice' (t := 23) (e := 84) (k := 2) Tryz.underlying23 ce_Field (by decide) (rdb_Field hm) H enc w n [a1] y1 (by simpa [ce_sField] using hg 1 _ rfl) (by omega)
   obtain ⟨v2, A2, c2, e2, h2⟩ := rdb_slice' (t := 24) (e := 52) (k := 5) Tryz.underlying24 ce_State (by decide) (rdb_State hm) H enc w n [a2] y2 (by simpa [ce_sState] using hg 2 _ rfl) (by omega)
   obtain ⟨v3, ⟨A3, c3, e3, h3⟩, k3⟩ := rdb_sliceC (m := m - 1) (t := 25) (e := 42) (k := 3) (fun a : Ac => countL a.body) Tryz.underlying25 ce_Action (by decide) (fun m' hm' => rdb_ActionC (m := m') (by omega)) H enc w n [a3] y3 (by simpa [ce_sAction] using hg 3 _ rfl) (by omega)
   obtain ⟨v4, A4, c4, e4, h4⟩ := rdb_slice' (t := 26) (e := 48) (k := 5) Tryz.underlying26 ce_Table (by decide) (rdb_Table hm) H enc w n [a4] y4 (by simpa [ce_sTable] using hg 4 _ rfl) (by omega)
   obtain ⟨v5, ⟨A5, c5, e5, h5⟩, k5⟩ := rdb_stmsC (m := m - 1) (by omega) H enc w n [a5] y5 (by simpa [ce_sStmt] using hg 5 _ rfl) (by omega)
   obtain ⟨v6, A6, c6, e6, h6⟩ := rdb_slice' (t := 28) (e := 9) (k := 1) Tryz.underlying28 ce_string (by decide) (rdb_strs (m := m) Tryz.underlying9) H enc w n [a6] y6 (by simpa [ce_sstring] using hg 6 _ rfl) (by omega)
   cases e0
   cases e1
   cases e2
   cases e3
   cases e4
   cases e5
   cases e6
   exact ⟨⟨v0, v1, v2, v3, v4, v5, v6⟩, ⟨A0, A1, A2, A3, A4, A5, A6, c0, c1, c2, c3, c4, c5, c6, rfl, ⟨h0, h1, h2, h3, h4, h5, h6⟩⟩, Nat.le_trans k5 (by omega), Nat.le_trans k3 (by omega)⟩
theorem sum_le_of {α : Type} {f : α → Nat} {c : Nat} : ∀ {l : List α}, (∀ x ∈ l, f x ≤ c) → (l.map f).sum ≤ l.length * c
 | [], _ => by simp
 | x :: l, h => by
  have h1 := h x List.mem_cons_self
  have h2 := sum_le_of (l := l) fun y hy => h y (List.mem_cons_of_mem _ hy)
  simp only [List.map_cons, List.sum_cons, List.length_cons, Nat.add_mul]; omega
theorem sum_split {α : Type} {f g : α → Nat} : ∀ (l : List α), (l.map fun a => f a + g a).sum = (l.map f).sum + (l.map g).sum
 | [] => rfl
 | x :: l => by simp only [List.map_cons, List.sum_cons, sum_split l]; omega
theorem count_small {p : Pg} (hm : mayP p = true) (hc : cntOk p) : (itemsP p).length ≤ bigI := by
 rw [length_itemsP]
 unfold mayP manyB at hm
 simp only [Bool.and_eq_true, decide_eq_true_eq] at hm
 obtain ⟨⟨⟨⟨⟨⟨⟨⟨h1, h2, h3a, h3, h4, h5, h6⟩, g1⟩, g2⟩, g3⟩, g4⟩, g5⟩, g6⟩, g7⟩ := hm
 obtain ⟨k1, k2⟩ := hc
 have a1 : (p.headers.map fun h => h.fields.length + 1).sum ≤ p.headers.length * 17 := sum_le_of fun x hx => by
  have := List.all_eq_true.1 g1 x hx
  simp only [hdB, Bool.and_eq_true, decide_eq_true_eq] at this
  omega
 have a2 : (p.states.map fun s => 1 + s.takes.length + 1 + s.cases_.length).sum ≤ p.states.length * 26 := sum_le_of fun x hx => by
  have := List.all_eq_true.1 g3 x hx
  unfold saB at this
  simp only [Bool.and_eq_true, decide_eq_true_eq] at this
  obtain ⟨⟨⟨_, t1⟩, _⟩, t2⟩ := this
  split at t2
  ·simp only [Bool.and_eq_true, decide_eq_true_eq] at t2; omega
  ·simp only [Bool.and_eq_true, List.isEmpty_iff] at t2; rw [t2.2]; simp only [List.length_nil]; omega
 have a3 : (p.actions.map fun a => 1 + a.params.length + countL a.body).sum ≤ p.actions.length * 9 + sm := by
  rw [sum_split (f := fun a : Ac => 1 + a.params.length) (g := fun a : Ac => countL a.body)]
  have : (p.actions.map fun a => 1 + a.params.length).sum ≤ p.actions.length * 9 := sum_le_of fun x hx => by
   have := List.all_eq_true.1 g4 x hx
   simp only [acB, Bool.and_eq_true, decide_eq_true_eq] at this
   omega
  omega
 have a4 : (p.tables.map fun t => 1 + t.keys.length + t.actions.length + 1).sum ≤ p.tables.length * 22 := sum_le_of fun x hx => by
  have := List.all_eq_true.1 g5 x hx
  simp only [taB, Bool.and_eq_true, decide_eq_true_eq] at this
  omega
 unfold countP
 show _ ≤ 100000000
 unfold sm at *
 omega
end Go.Proofs.YtcgmkjpgaigmfaaGreat
/-
ResolveChecks (layer 7): the first item of any program with which something is wrong, and what, is the document's; where the arguments are of bulk at most 1048576.
-/
namespace Go.Proofs.YtcgmkjpgaigmfaaGreat
open Go.ChangeShapes Go.WideShapes Go.ChangeAt Go.RowKit
theorem Tryz.own : ownKnob Tryz.prog.godebug = none := by kernel_rfl
theorem Tryz.laidOut : laidOutB Tryz.prog = true := by kernel_rfl
theorem rrP : Tryz.prog.readableRec 30 = true := by kernel_rfl
theorem tsP : 30 < Tryz.prog.types.size := of_decide_eq_true (by kernel_rfl)
def pgNil : Value := .agg #[.slice none 0 0, .slice none 0 0, .slice none 0 0, .slice none 0 0, .slice none 0 0, .slice none 0 0, .slice none 0 0]
set_option maxRecDepth 100000 in
theorem open_pg {H : Type} {enc : TypeId × Value → H} {w : World} {b : Nat} {v : Value} {d : DataW H} {q : List MemPlace} (hv : Value.okWide Tryz.prog w .any b 30 v) (h : DataW.Trod enc Tryz.prog w 0 (fun _ => true) true 30 v d q) {M : Nat} (hM : M ≤ sm) (hb : Rows.uptoBulk d ≤ M) :
  ∃ p A1 A2 A3 A4 A5 A6 A7 c1 c2 c3 c4 c5 c6 c7, v = .agg #[.slice A1 p.headers.length c1, .slice A2 p.metas.length c2, .slice A3 p.states.length c3, .slice A4 p.actions.length c4, .slice A5 p.tables.length c5, .slice A6 p.control.length c6, .slice A7 p.emit.length c7] ∧ PgS w w.heap.size A1 A2 A3 A4 A5 A6 A7 p ∧ cntOk p := by
 obtain ⟨cs, rfl, hsz⟩ := okWide_struct Tryz.underlying30 hv
 obtain ⟨fuel, hf⟩ := h
 obtain ⟨p, ⟨A1, A2, A3, A4, A5, A6, A7, c1, c2, c3, c4, c5, c6, c7, e, hP⟩, hcnt⟩ := rdb_ProgramC hM H enc w fuel cs.toList _ (by simpa [Value.cells] using hf) hb
 refine ⟨p, A1, A2, A3, A4, A5, A6, A7, c1, c2, c3, c4, c5, c6, c7, ?_, hP, hcnt⟩
 obtain ⟨l⟩ := cs
 simp only at e
 rw [e]
 rfl
set_option maxRecDepth 100000 in
theorem checks_contract (H : Type) (enc : TypeId × Value → H) (W : World) (base : Nat) (args : Array Value) (ds gs : List (DataW H)) (before : List MemPlace)
  (hval : ∀ (j : Nat) t v, Tryz.f3.params[j]? = some t → args[j]? = some v → Value.okWide Tryz.prog W .any base t v)
  (hW : DataW.Whole enc Tryz.prog Tryz.f3.params.toList Rows.resolveChecksSpec.vars false W args.toList ds gs before) (hk : Rows.uptoSmall H (ds ++ gs) = true) (hsh : W.ShapedOpen Tryz.prog) :
  Calls Tryz.prog 3 args W fun e W' => ∃ v, e = .returned v ∧ Rows.resolveChecksSpec.post enc Tryz.prog Tryz.f3 false true false false W args v W' := by
 have hW' := hW
 obtain ⟨p, q, hA0, hV, rfl, hfz, hnd⟩ := hW
 have hA : DataW.TrodAll enc Tryz.prog W 0 (fun _ => true) true Tryz.f3.params.toList args.toList ds p := hA0
 rw [Tryz.params3] at hA hval
 obtain ⟨v0, vs0, d0, ds0, p0, q0, hargs, rfl, rfl, h0, r0⟩ := trodAll_cons hA
 obtain ⟨rfl, rfl, rfl⟩ := trodAll_nil r0
 obtain rfl : args = #[v0] := by cases args; simp_all
 obtain ⟨rfl, rfl⟩ := trodVars_none hV
 clear hA0
 have hlt : ∀ x ∈ (p0 ++ []) ++ [], x.block < W.heap.size := fun x hx => hW'.lt x hx
 have hb : Rows.uptoBulk d0 ≤ sm := by
  have h := of_decide_eq_true hk
  simp only [List.append_nil, Rows.uptoBulkAll, Nat.add_zero] at h
  exact h
 obtain ⟨pg, A1, A2, A3, A4, A5, A6, A7, c1, c2, c3, c4, c5, c6, c7, rfl, hP, hcnt⟩ := open_pg (hval 0 _ v0 rfl rfl) h0 (Nat.le_refl _) hb
 obtain ⟨m0, hm0⟩ := Tryz.laysM144.s1_3 W hsh
 refine (checks_any (known_any m0) W A1 A2 A3 A4 A5 A6 A7 pg c1 c2 c3 c4 c5 c6 c7 hm0 hP (fun hm => count_small hm hcnt)).mono fun e W' ⟨he, hbw⟩ => ?_
 subst he
 refine ⟨_, rfl, post_below (pa := p0) (pv := []) hW' (fun _ _ _ => trodAll_mk1 (shut_bool Tryz.underlying4 true)) ?_ rfl (by simp) hbw⟩
 exact trodAll_mk1 (Below.trod Tryz.laidOut rrP tsP h0 hbw (fun x hx => hlt x (by simp [hx])))
set_option maxRecDepth 100000 in
theorem checks_lifted (os : Os) (started : os.Started) (H : Type) (enc : TypeId × Value → H) (F : Stop.Interp) :
  ReturnsInHanded {} Tryz.checked os 3 .any ((Rows.OpenSpec.upto Rows.resolveChecksSpec).preRow enc Tryz.prog Tryz.f3 Rows.resolveChecksUptoRow.domain false Rows.resolveChecksUptoRow.laid) (((Rows.OpenSpec.upto Rows.resolveChecksSpec).at F).post enc Tryz.prog Tryz.f3 false true false false) := by
 refine returnsInHanded_of_row (C := Tryz.checked) (s := Rows.OpenSpec.upto Rows.resolveChecksSpec) Tryz.own started (by kernel_rfl) Tryz.func3
  (witness_row_at (enc := enc) (C := Tryz.checked) false (World.holding Tryz.prog os ⟨#[], #[pgNil], []⟩) #[pgNil] rfl (by kernel_rfl) (by kernel_rfl) (by kernel_rfl)
   (OpenSpec.preRow_of_cond 8 (x := ([.agg [.nil, .nil, .nil, .nil, .nil, .nil, .nil]], [], [])) (by kernel_rfl) (by kernel_rfl) (fun k hk => by cases hk; kernel_rfl) (by kernel_rfl) (laidMetH_nil _ _))) ?_
 intro W base args ds gs before hval hW _ hk _ _ hsh _
 exact checks_contract H enc W base args ds gs before hval hW (hk _ rfl) hsh
theorem resolveChecks_upto : Rows.ResolveChecksUptoSaid :=
 OpenClaim.holds_of_cond 3 Tryz.f3 rfl rfl rfl rfl rfl rfl rfl ⟨rfl, rfl, rfl, rfl, rfl⟩ rfl rfl rfl rfl rfl (by kernel_rfl) Tryz.func3 (by kernel_rfl)
  (of_decide_eq_true (by kernel_rfl)) (by unfold Func.isWrapper; rw [if_neg (of_decide_eq_false (by kernel_rfl))]; exact ⟨rfl, rfl⟩)
  (fun os started H enc _ F => by rw [OpenClaim.pre_eq_preRow]; exact checks_lifted os started H enc F)
end Go.Proofs.YtcgmkjpgaigmfaaGreat

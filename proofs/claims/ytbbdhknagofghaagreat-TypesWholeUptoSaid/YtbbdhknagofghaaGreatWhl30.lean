import Derived.Test.YtbbdhknagofghaaGreatWhl28
import Derived.Test.YtbbdhknagofghaaGreatWhl29
import Derived.Test.YtbbdhknagofghaaGreatWhl26
import Derived.Test.YtbbdhknagofghaaGreatWhl27
set_option linter.all false
/-! Layer 7: check, of any item of a program. -/
namespace Go.Proofs.YtbbdhknagofghaaGreat
open Go.RowKit
def rIt : CR It := fun w B cs x => ∃ scs, cs = .int .u8 x.kind :: .int .i64 x.a :: .int .i64 x.b :: scs ∧ rSt w B scs x.s
theorem sta_it : Sta rIt := ⟨fun ⟨scs, e, h⟩ hk => ⟨scs, e, sta_st.keep h hk⟩, fun ⟨scs, e, h⟩ hB => ⟨scs, e, sta_st.more h hB⟩⟩
theorem rSt_form {w : World} {B : Nat} {cs : List Value} {s : St} (h : rSt w B cs s) : ∃ s0 s1 s2 s3 s4 s5 s6 s7 s8 s9 s10 s11 s12 s13, cs = [s0, s1, s2, s3, s4, s5, s6, s7, s8, s9, s10, s11, s12, s13] := by
 obtain ⟨kind, head, name, e, thn, els⟩ := s
 obtain ⟨es, A, cap, A', cap', rfl, -, -, -, he, hT, hE⟩ := RS.inv h
 obtain ⟨op, lit, ehead, ename, hi, lo, args⟩ := e
 obtain ⟨Ae, ecap, rfl, -⟩ := RE.inv he
 exact ⟨_, _, _, _, _, _, _, _, _, _, _, _, _, _, rfl⟩
theorem items_stmtS (a : Int) (s : St) : ∀ x ∈ itemsS a s, ∃ st, x = ⟨10, a, 0, st⟩ := by
 induction s using St.ind with
 | h kind head name e thn els ih1 ih2 =>
  have g : ∀ l : List St, (∀ y ∈ l, ∀ x ∈ itemsS a y, ∃ st, x = ⟨10, a, 0, st⟩) → ∀ x ∈ itemsL a l, ∃ st, x = (⟨10, a, 0, st⟩ : It) := by
   intro l h x hx
   rw [itemsL_flat, List.mem_flatMap] at hx
   obtain ⟨y, hy, hx⟩ := hx
   exact h y hy x hx
  intro x hx
  simp only [itemsS, List.mem_cons, List.mem_append] at hx
  rcases hx with rfl | hx | hx
  ·exact ⟨_, rfl⟩
  ·exact g thn ih1 x hx
  ·exact g els ih2 x hx
theorem items_stmt (a : Int) (l : List St) : ∀ x ∈ itemsL a l, ∃ st, x = ⟨10, a, 0, st⟩ := by
 intro x hx
 rw [itemsL_flat, List.mem_flatMap] at hx
 obtain ⟨y, hy, hx⟩ := hx
 exact items_stmtS a y x hx
theorem mem_eachI' {α : Type} {kind : Int} {l : List α} {g : Nat → α → List It} {x : It} (h : x ∈ eachI kind l g) : ∃ (i : Nat) (a : α), l[i]? = some a ∧ (x = ⟨kind, (i : Int), 0, zSt⟩ ∨ x ∈ g i a) := by
 obtain ⟨⟨a, i⟩, hm, hx⟩ := List.mem_flatMap.1 h
 rw [List.mem_zipIdx_iff_getElem?] at hm
 rcases List.mem_cons.1 hx with hx | hx
 ·exact ⟨i, a, hm, .inl hx⟩
 ·exact ⟨i, a, hm, .inr hx⟩
theorem mem_manyI' {kind : Int} {a n : Nat} {x : It} (h : x ∈ manyI kind a n) : ∃ j : Nat, j < n ∧ x = ⟨kind, (a : Int), (j : Int), zSt⟩ := by
 obtain ⟨j, hj, rfl⟩ := List.mem_map.1 h
 exact ⟨j, List.mem_range.1 hj, rfl⟩
theorem items_elim {p : Pg} {P : It → Prop}
  (h1 : ∀ (i : Nat) (f : Hd), p.headers[i]? = some f → P ⟨1, i, 0, zSt⟩)
  (h2 : ∀ (i j : Nat) (f : Hd) (g : Fd), p.headers[i]? = some f → f.fields[j]? = some g → P ⟨2, i, j, zSt⟩)
  (h3 : ∀ (i : Nat) (f : Fd), p.metas[i]? = some f → P ⟨3, i, 0, zSt⟩)
  (h4 : ∀ (i : Nat) (f : Sa), p.states[i]? = some f → P ⟨4, i, 0, zSt⟩)
  (h5 : ∀ (i j : Nat) (f : Sa) (g : ByteArray), p.states[i]? = some f → f.takes[j]? = some g → P ⟨5, i, j, zSt⟩)
  (h6 : ∀ (i : Nat) (f : Sa), p.states[i]? = some f → P ⟨6, i, 0, zSt⟩)
  (h7 : ∀ (i j : Nat) (f : Sa) (g : Ca), p.states[i]? = some f → f.cases_[j]? = some g → P ⟨7, i, j, zSt⟩)
  (h8 : ∀ (i : Nat) (f : Ac), p.actions[i]? = some f → P ⟨8, i, 0, zSt⟩)
  (h9 : ∀ (i j : Nat) (f : Ac) (g : Fd), p.actions[i]? = some f → f.params[j]? = some g → P ⟨9, i, j, zSt⟩)
  (h10 : ∀ (a : Int) (st : St), P ⟨10, a, 0, st⟩)
  (h11 : ∀ (i : Nat) (f : Ta), p.tables[i]? = some f → P ⟨11, i, 0, zSt⟩)
  (h12 : ∀ (i j : Nat) (f : Ta) (g : Ky), p.tables[i]? = some f → f.keys[j]? = some g → P ⟨12, i, j, zSt⟩)
  (h13 : ∀ (i j : Nat) (f : Ta) (g : ByteArray), p.tables[i]? = some f → f.actions[j]? = some g → P ⟨13, i, j, zSt⟩)
  (h14 : ∀ (i : Nat) (f : Ta), p.tables[i]? = some f → P ⟨14, i, 0, zSt⟩)
  (h15 : ∀ (i : Nat) (g : ByteArray), p.emit[i]? = some g → P ⟨15, i, 0, zSt⟩) : ∀ x ∈ itemsP p, P x := by
 have G : ∀ {α : Type} {l : List α} {j : Nat}, j < l.length → ∃ a, l[j]? = some a := fun h => ⟨_, List.getElem?_eq_getElem h⟩
 intro x hx
 simp only [itemsP, headsI, metasI, statesI, actsI, tabsI, emitsI, List.mem_append] at hx
 rcases hx with hx | hx | hx | hx | hx | hx | hx
 ·obtain ⟨i, f, hi, rfl | hx⟩ := mem_eachI' hx
  ·exact h1 i f hi
  ·obtain ⟨j, hj, rfl⟩ := mem_manyI' hx
   obtain ⟨g, hg⟩ := G hj
   exact h2 i j f g hi hg
 ·obtain ⟨i, f, hi, rfl | hx⟩ := mem_eachI' hx
  ·exact h3 i f hi
  ·simp at hx
 ·obtain ⟨i, f, hi, rfl | hx⟩ := mem_eachI' hx
  ·exact h4 i f hi
  ·rw [List.mem_append, List.mem_cons] at hx
   rcases hx with hx | rfl | hx
   ·obtain ⟨j, hj, rfl⟩ := mem_manyI' hx
    obtain ⟨g, hg⟩ := G hj
    exact h5 i j f g hi hg
   ·exact h6 i f hi
   ·obtain ⟨j, hj, rfl⟩ := mem_manyI' hx
    obtain ⟨g, hg⟩ := G hj
    exact h7 i j f g hi hg
 ·obtain ⟨i, f, hi, rfl | hx⟩ := mem_eachI' hx
  ·exact h8 i f hi
  ·rcases List.mem_append.1 hx with hx | hx
   ·obtain ⟨j, hj, rfl⟩ := mem_manyI' hx
    obtain ⟨g, hg⟩ := G hj
    exact h9 i j f g hi hg
   ·obtain ⟨st, rfl⟩ := items_stmt _ _ x hx
    exact h10 _ st
 ·obtain ⟨i, f, hi, rfl | hx⟩ := mem_eachI' hx
  ·exact h11 i f hi
  ·rw [List.mem_append, List.mem_append, List.mem_singleton] at hx
   rcases hx with hx | hx | rfl
   ·obtain ⟨j, hj, rfl⟩ := mem_manyI' hx
    obtain ⟨g, hg⟩ := G hj
    exact h12 i j f g hi hg
   ·obtain ⟨j, hj, rfl⟩ := mem_manyI' hx
    obtain ⟨g, hg⟩ := G hj
    exact h13 i j f g hi hg
   ·exact h14 i f hi
 ·obtain ⟨st, rfl⟩ := items_stmt _ _ x hx
  exact h10 _ st
 ·obtain ⟨i, f, hi, rfl | hx⟩ := mem_eachI' hx
  ·exact h15 i f hi
  ·simp at hx
set_option maxRecDepth 100000 in
set_option maxHeartbeats 1000000 in
theorem check_any (A1 A2 A3 A4 A5 A6 A7 : Option Addr) (p : Pg) (c1 c2 c3 c4 c5 c6 c7 : Nat) (B : Nat) (hm : mayP p = true) : ∀ x ∈ itemsP p, ∀ (cs : List Value) (w : World), B ≤ w.heap.size → PgS w B A1 A2 A3 A4 A5 A6 A7 p → rIt w B cs x →
  Calls Tryz.prog 32 #[.agg #[.slice A1 p.headers.length c1, .slice A2 p.metas.length c2, .slice A3 p.states.length c3, .slice A4 p.actions.length c4, .slice A5 p.tables.length c5, .slice A6 p.control.length c6, .slice A7 p.emit.length c7], .agg cs.toArray] w fun r w' => r = .returned (.int .i64 (checkI p x)) ∧ Below w.heap.size w w' := by
 have hh : ∀ (i : Nat) (f : Hd), p.headers[i]? = some f → hdB f = true := fun i f hi => by
  simp only [mayP, Bool.and_eq_true] at hm
  exact List.all_eq_true.1 hm.1.1.1.1.1.1.2 f (List.mem_of_getElem? hi)
 refine items_elim ?_ ?_ ?_ ?_ ?_ ?_ ?_ ?_ ?_ ?_ ?_ ?_ ?_ ?_ ?_
 ·rintro i f hi cs w hB hP ⟨scs, rfl, hs⟩
  obtain ⟨s0, s1, s2, s3, s4, s5, s6, s7, s8, s9, s10, s11, s12, s13, rfl⟩ := rSt_form hs
  refine (check_header A1 A2 A3 A4 A5 A6 A7 p c1 c2 c3 c4 c5 c6 c7 B i f s0 s1 s2 s3 s4 s5 s6 s7 s8 s9 s10 s11 s12 s13 w hB hP (hh i f hi) hi).mono ?_
  rintro e w' ⟨rfl, hb⟩
  exact ⟨ret_int (by simp [checkI, hi]), hb⟩
 ·rintro i j f g hi hj cs w hB hP ⟨scs, rfl, hs⟩
  obtain ⟨s0, s1, s2, s3, s4, s5, s6, s7, s8, s9, s10, s11, s12, s13, rfl⟩ := rSt_form hs
  refine (check_field A1 A2 A3 A4 A5 A6 A7 p c1 c2 c3 c4 c5 c6 c7 B i j f g s0 s1 s2 s3 s4 s5 s6 s7 s8 s9 s10 s11 s12 s13 w hB hP hi hj).mono ?_
  rintro e w' ⟨rfl, hb⟩
  exact ⟨ret_int (by simp [checkI, hi, hj]), hb⟩
 ·rintro i f hi cs w hB hP ⟨scs, rfl, hs⟩
  obtain ⟨s0, s1, s2, s3, s4, s5, s6, s7, s8, s9, s10, s11, s12, s13, rfl⟩ := rSt_form hs
  refine (check_meta A1 A2 A3 A4 A5 A6 A7 p c1 c2 c3 c4 c5 c6 c7 B i f s0 s1 s2 s3 s4 s5 s6 s7 s8 s9 s10 s11 s12 s13 w hB hP hi).mono ?_
  rintro e w' ⟨rfl, hb⟩
  exact ⟨ret_int (by simp [checkI, hi]), hb⟩
 ·rintro i f hi cs w hB hP ⟨scs, rfl, hs⟩
  obtain ⟨s0, s1, s2, s3, s4, s5, s6, s7, s8, s9, s10, s11, s12, s13, rfl⟩ := rSt_form hs
  refine (check_state A1 A2 A3 A4 A5 A6 A7 p c1 c2 c3 c4 c5 c6 c7 B i f s0 s1 s2 s3 s4 s5 s6 s7 s8 s9 s10 s11 s12 s13 w hB hP hi).mono ?_
  rintro e w' ⟨rfl, hb⟩
  exact ⟨ret_int (by simp [checkI, hi]), hb⟩
 ·rintro i j f g hi hj cs w hB hP ⟨scs, rfl, hs⟩
  obtain ⟨s0, s1, s2, s3, s4, s5, s6, s7, s8, s9, s10, s11, s12, s13, rfl⟩ := rSt_form hs
  refine (check_take A1 A2 A3 A4 A5 A6 A7 p c1 c2 c3 c4 c5 c6 c7 B i f j g s0 s1 s2 s3 s4 s5 s6 s7 s8 s9 s10 s11 s12 s13 w hB hP hi hj).mono ?_
  rintro e w' ⟨rfl, hb⟩
  exact ⟨ret_int (by simp [checkI, hi, hj]), hb⟩
 ·rintro i f hi cs w hB hP ⟨scs, rfl, hs⟩
  obtain ⟨s0, s1, s2, s3, s4, s5, s6, s7, s8, s9, s10, s11, s12, s13, rfl⟩ := rSt_form hs
  refine (check_next A1 A2 A3 A4 A5 A6 A7 p c1 c2 c3 c4 c5 c6 c7 B i f 0 s0 s1 s2 s3 s4 s5 s6 s7 s8 s9 s10 s11 s12 s13 w hB hP hi).mono ?_
  rintro e w' ⟨rfl, hb⟩
  exact ⟨ret_int (by simp [checkI, hi]), hb⟩
 ·rintro i j f g hi hj cs w hB hP ⟨scs, rfl, hs⟩
  obtain ⟨s0, s1, s2, s3, s4, s5, s6, s7, s8, s9, s10, s11, s12, s13, rfl⟩ := rSt_form hs
  refine (check_case A1 A2 A3 A4 A5 A6 A7 p c1 c2 c3 c4 c5 c6 c7 B i f j g s0 s1 s2 s3 s4 s5 s6 s7 s8 s9 s10 s11 s12 s13 w hB hP hi hj).mono ?_
  rintro e w' ⟨rfl, hb⟩
  exact ⟨ret_int (by simp [checkI, hi, hj]), hb⟩
 ·rintro i f hi cs w hB hP ⟨scs, rfl, hs⟩
  obtain ⟨s0, s1, s2, s3, s4, s5, s6, s7, s8, s9, s10, s11, s12, s13, rfl⟩ := rSt_form hs
  refine (check_action A1 A2 A3 A4 A5 A6 A7 p c1 c2 c3 c4 c5 c6 c7 B i f s0 s1 s2 s3 s4 s5 s6 s7 s8 s9 s10 s11 s12 s13 w hB hP hi).mono ?_
  rintro e w' ⟨rfl, hb⟩
  exact ⟨ret_int (by simp [checkI, hi]), hb⟩
 ·rintro i j f g hi hj cs w hB hP ⟨scs, rfl, hs⟩
  obtain ⟨s0, s1, s2, s3, s4, s5, s6, s7, s8, s9, s10, s11, s12, s13, rfl⟩ := rSt_form hs
  refine (check_param A1 A2 A3 A4 A5 A6 A7 p c1 c2 c3 c4 c5 c6 c7 B i j f g s0 s1 s2 s3 s4 s5 s6 s7 s8 s9 s10 s11 s12 s13 w hB hP hi hj).mono ?_
  rintro e w' ⟨rfl, hb⟩
  exact ⟨ret_int (by simp [checkI, hi, hj]), hb⟩
 ·rintro a st cs w hB hP ⟨scs, rfl, hs⟩
  obtain ⟨s0, s1, s2, s3, s4, s5, s6, s7, s8, s9, s10, s11, s12, s13, rfl⟩ := rSt_form hs
  refine (check_stmt A1 A2 A3 A4 A5 A6 A7 p c1 c2 c3 c4 c5 c6 c7 B a st s0 s1 s2 s3 s4 s5 s6 s7 s8 s9 s10 s11 s12 s13 w hB hP hs).mono ?_
  rintro e w' ⟨rfl, hb⟩
  exact ⟨ret_int (by simp [checkI]), hb⟩
 ·rintro i f hi cs w hB hP ⟨scs, rfl, hs⟩
  obtain ⟨s0, s1, s2, s3, s4, s5, s6, s7, s8, s9, s10, s11, s12, s13, rfl⟩ := rSt_form hs
  refine (check_table A1 A2 A3 A4 A5 A6 A7 p c1 c2 c3 c4 c5 c6 c7 B i f s0 s1 s2 s3 s4 s5 s6 s7 s8 s9 s10 s11 s12 s13 w hB hP hi).mono ?_
  rintro e w' ⟨rfl, hb⟩
  exact ⟨ret_int (by simp [checkI, hi]), hb⟩
 ·rintro i j f g hi hj cs w hB hP ⟨scs, rfl, hs⟩
  obtain ⟨s0, s1, s2, s3, s4, s5, s6, s7, s8, s9, s10, s11, s12, s13, rfl⟩ := rSt_form hs
  refine (check_key A1 A2 A3 A4 A5 A6 A7 p c1 c2 c3 c4 c5 c6 c7 B i j f g s0 s1 s2 s3 s4 s5 s6 s7 s8 s9 s10 s11 s12 s13 w hB hP hi hj).mono ?_
  rintro e w' ⟨rfl, hb⟩
  exact ⟨ret_int (by simp [checkI, hi, hj]), hb⟩
 ·rintro i j f g hi hj cs w hB hP ⟨scs, rfl, hs⟩
  obtain ⟨s0, s1, s2, s3, s4, s5, s6, s7, s8, s9, s10, s11, s12, s13, rfl⟩ := rSt_form hs
  refine (check_listed A1 A2 A3 A4 A5 A6 A7 p c1 c2 c3 c4 c5 c6 c7 B i j f g s0 s1 s2 s3 s4 s5 s6 s7 s8 s9 s10 s11 s12 s13 w hB hP hi hj).mono ?_
  rintro e w' ⟨rfl, hb⟩
  exact ⟨ret_int (by simp [checkI, hi, hj]), hb⟩
 ·rintro i f hi cs w hB hP ⟨scs, rfl, hs⟩
  obtain ⟨s0, s1, s2, s3, s4, s5, s6, s7, s8, s9, s10, s11, s12, s13, rfl⟩ := rSt_form hs
  refine (check_default A1 A2 A3 A4 A5 A6 A7 p c1 c2 c3 c4 c5 c6 c7 B i f s0 s1 s2 s3 s4 s5 s6 s7 s8 s9 s10 s11 s12 s13 w hB hP hi).mono ?_
  rintro e w' ⟨rfl, hb⟩
  exact ⟨ret_int (by simp [checkI, hi]), hb⟩
 ·rintro i g hi cs w hB hP ⟨scs, rfl, hs⟩
  obtain ⟨s0, s1, s2, s3, s4, s5, s6, s7, s8, s9, s10, s11, s12, s13, rfl⟩ := rSt_form hs
  refine (check_emit A1 A2 A3 A4 A5 A6 A7 p c1 c2 c3 c4 c5 c6 c7 B i g s0 s1 s2 s3 s4 s5 s6 s7 s8 s9 s10 s11 s12 s13 w hB hP hi).mono ?_
  rintro e w' ⟨rfl, hb⟩
  exact ⟨ret_int (by simp [checkI, hi]), hb⟩
end Go.Proofs.YtbbdhknagofghaaGreat
/-! Printed by gen_typm.py. Layer 8: item at kind 6. -/
namespace Go.Proofs.YtbbdhknagofghaaGreat
open Go.RowKit
set_option maxRecDepth 100000 in
set_option maxHeartbeats 16000000 in
theorem titem_next (A1 A2 A3 A4 A5 A6 A7 : Option Addr) (p : Pg) (c1 c2 c3 c4 c5 c6 c7 : Nat) (B : Nat) (hm : mayP p = true) (i : Nat) (hi : i < p.states.length) (hks : ∀ e ∈ p.states[i].keys, allE e = true) (b : Int) (s0 s1 s2 s3 s4 s5 s6 s7 s8 s9 s10 s11 s12 s13 : Value) (w : World) (hB : B ≤ w.heap.size) (hP : PgS w B A1 A2 A3 A4 A5 A6 A7 p) :
  Calls Tryz.prog 21 #[.agg #[.slice A1 p.headers.length c1, .slice A2 p.metas.length c2, .slice A3 p.states.length c3, .slice A4 p.actions.length c4, .slice A5 p.tables.length c5, .slice A6 p.control.length c6, .slice A7 p.emit.length c7], .agg #[.int .u8 6, .int .i64 (i : Int), .int .i64 b, s0, s1, s2, s3, s4, s5, s6, s7, s8, s9, s10, s11, s12, s13]] w fun z7 w' => z7 = endU (firstE (keyR p) p.states[i].keys) ∧ Below w.heap.size w w' := by
 obtain ⟨wu, hwu, hsu, hbu, hcu, hfu⟩ := box1 w #[.slice A1 p.headers.length c1, .slice A2 p.metas.length c2, .slice A3 p.states.length c3, .slice A4 p.actions.length c4, .slice A5 p.tables.length c5, .slice A6 p.control.length c6, .slice A7 p.emit.length c7] 30
 obtain ⟨wx, hwx, hsx, hbx, hcx, hfx⟩ := box1 wu #[.int .u8 6, .int .i64 (i : Int), .int .i64 b, s0, s1, s2, s3, s4, s5, s6, s7, s8, s9, s10, s11, s12, s13] 49
 have hEx : Below wx.heap.size wx wx := Below.refl _ _
 have hEu : Below wu.heap.size wu wx := hbx.trans (hEx.mono (by omega))
 have hw := hide (hbu.trans (hEu.mono (by omega)))
 have cu := fun i => (hEu.cell (p := ⟨w.heap.size, i, none⟩) (by show w.heap.size < _; omega)).trans (hcu i)
 have cx := fun i => (hEx.cell (p := ⟨wu.heap.size, i, none⟩) (by show wu.heap.size < _; omega)).trans (hcx i)
 have hfr := hfx
 simp only [hsu] at cx hfr
 obtain ⟨u0, u1, u2, u3, u4, u5, u6⟩ := row7 cu
 obtain ⟨x0, x1, x2, x3, x4, x5, x6, x7, x8, x9, x10, x11, x12, x13, x14, x15, x16⟩ := row17 cx
 have hl1 : w.heap.size < wx.heap.size := by omega
 have hl2 : w.heap.size + 1 < wx.heap.size := by omega
 clear cu hcu hbu hfu cx hcx hbx hfx hEu hEx
 replace hsx := hide hsx
 obtain ⟨wv, hwv, hsv, hbv, hcv, -⟩ := box1 wx #[.slice A1 p.headers.length c1, .slice A2 p.metas.length c2, .slice A3 p.states.length c3, .slice A4 p.actions.length c4, .slice A5 p.tables.length c5, .slice A6 p.control.length c6, .slice A7 p.emit.length c7, .int .i64 (-1)] 88
 obtain ⟨v0, v1, v2, v3, v4, v5, v6, v7⟩ := row8 hcv
 have kv := bcell' hbv
 have hl3 : wx.heap.size < wv.heap.size := by omega
 have m1 := Nat.lt_of_lt_of_le hl1 hbv.size
 have m2 := Nat.lt_of_lt_of_le hl2 hbv.size
 replace hw := hide (hw.out.trans (hbv.mono (by omega)))
 clear hcv
 replace hsv := hide hsv
 have hBv : B ≤ wv.heap.size := by omega
 have hPz := hide (hP.below (hw.out.mono hB))
 clear hP
 have hX0 : ∀ e ∈ p.states[i].keys, ∀ (ecs : List Value) (W : World), Below wv.heap.size wv W → rEx wv B ecs e → Calls Tryz.prog 29 #[.agg #[.slice A1 p.headers.length c1, .slice A2 p.metas.length c2, .slice A3 p.states.length c3, .slice A4 p.actions.length c4, .slice A5 p.tables.length c5, .slice A6 p.control.length c6, .slice A7 p.emit.length c7, .int .i64 (-1)], .agg ecs.toArray] W fun r w' => r = endR (ofR p (-1) e) ∧ Below W.heap.size W w' :=
  fun e he ecs W hb hr => tof_any A1 A2 A3 A4 A5 A6 A7 p c1 c2 c3 c4 c5 c6 c7 (-1) B hm e (hks e he) ecs W (Nat.le_trans hBv hb.size) (hPz.out.below (hb.mono hBv)) (sta_ex.keep hr fun q hq => (hb.mono hBv).cell hq)
 obtain ⟨g0, o0, ecs, hA, hb, hel, hcell, B1, d1, B2, d2, B3, d3, hf, hn1, hn2, hS1, hS2, hS3⟩ := hPz.out.states.2 i _ (List.getElem?_eq_getElem hi)
 subst hA
 subst hf
 have y3 : wv.cell? ⟨g0, o0 + i * 5 + 3, none⟩ = some (.slice B2 p.states[i].keys.length d2) := hcell 3 _ rfl
 have lm := hPz.out.states.len
 have lk := hS2.len
 have hbw : g0 < wv.heap.size := by omega
 have hil : (i : Int) < (p.states.length : Int) := by omega
 replace hX0 := hide hX0
 clear hcell hel hS1 hS3 hks hPz
 generalize p.states[i].keys = keys at *
 replace hS2 := hide hS2
 have hs0 := hide (Below.refl wv.heap.size wv)
 go_enter Tryz.func21, Tryz.ntmps21
 go_wp2
 go_loopw [31] (fun j wr => ∃ k : Nat, k ≤ keys.length ∧ j = .int .i64 k ∧ Hid (firstE (keyR p) (keys.take k) = .ok ()) ∧ Hid (Below wv.heap.size wv wr)) (fun j _ => keys.length - (intOf j).toNat)
 case atStart => exact ⟨0, Nat.zero_le _, rfl, hide (by simp [firstE]), hs0⟩
 case round =>
  clear hs0
  obtain ⟨k, hk, rfl, ht, hbr⟩ := hrel
  have hzr := hbr.out.size
  have hc := bcell' hbr.out
  have r1 := Nat.lt_of_lt_of_le m1 hzr
  have r2 := Nat.lt_of_lt_of_le m2 hzr
  have r3 := Nat.lt_of_lt_of_le hl3 hzr
  by_cases hlt : k < keys.length
  ·obtain ⟨b2, o2, ecs2, hA2, hb2, hel2, hcell2, hr2⟩ := hS2.out.2 k _ (List.getElem?_eq_getElem hlt)
   subst hA2
   have hltz : (k : Int) < (keys.length : Int) := by omega
   have hX1 := hide (fun (W : World) (hW : Below wv.heap.size wv W) => hX0.out _ (List.getElem_mem hlt) ecs2 W hW hr2)
   have hst := hide (fun n h => firstE_stop (f := keyR p) (n := n) hlt ht.out h)
   have hnx := hide (fun h => firstE_next (f := keyR p) hlt ht.out h)
   have hkr := hide (show keyR p keys[k] = bitsU (ofR p (-1) keys[k]) from rfl)
   generalize keyR p keys[k] = kr at hst hnx hkr
   generalize ofR p (-1) keys[k] = ra at hX1 hkr
   generalize keys[k] = e at hr2
   obtain ⟨ope, lite, heade, namee, hie, loe, argse⟩ := e
   obtain ⟨Ae, cape, rfl, -, -, -, -, -, -, hs'⟩ := RE.inv hr2
   have hl' := hs'.len
   obtain ⟨t0, t1, t2, t3, t4, t5, t6, t7, t8⟩ := srow9 hcell2
   obtain ⟨wy, hwy, hzy, hby, hcy, -⟩ := box1 wr #[.int .u8 ope, .int .i64 lite.1, .int .u64 lite.2.1, .int .u64 lite.2.2, .string heade, .string namee, .int .i64 hie, .int .i64 loe, .slice Ae argse.length cape] 45
   obtain ⟨y0', y1', y2', y3', y4', y5', y6', y7', y8'⟩ := row9 hcy
   have hbX := hbr.out.trans (hby.mono hzr)
   have hc2 := bcell' hbX
   have q1 := Nat.lt_of_lt_of_le m1 hbX.size
   have q2 := Nat.lt_of_lt_of_le m2 hbX.size
   have q3 := Nat.lt_of_lt_of_le hl3 hbX.size
   have hX : Hid (Calls Tryz.prog 29 #[.agg #[.slice A1 p.headers.length c1, .slice A2 p.metas.length c2, .slice (some ⟨g0, o0, none⟩) p.states.length c3, .slice A4 p.actions.length c4, .slice A5 p.tables.length c5, .slice A6 p.control.length c6, .slice A7 p.emit.length c7, .int .i64 (-1)], .agg #[.int .u8 ope, .int .i64 lite.1, .int .u64 lite.2.1, .int .u64 lite.2.2, .string heade, .string namee, .int .i64 hie, .int .i64 loe, .slice Ae argse.length cape]] wy _) := hide (hX1.out wy hbX)
   have hb' : b2 < wv.heap.size := by omega
   replace hbX := hide hbX
   clear hcell2 hr2 hX1 hs' hel2 hcy hby
   cases ra with
   | error n7 =>
    replace hX := hide (show Calls Tryz.prog _ _ wy fun e w' => e = noE n7 ∧ Below wy.heap.size wy w' from hX.out)
    have hres := hide (hst.out n7 hkr.out)
    clear hnx hst
    go_wp2_with (go_at_call 29; refine hX.out.mono ?_; rintro e w1 ⟨rfl, hw1⟩)
    exact ⟨rfl, by rw [hres.out]; rfl, hw.out.trans ((hbX.out.trans (hw1.mono hbX.out.size)).mono (by omega))⟩
   | ok t =>
    obtain ⟨tw, tr, tf⟩ := t
    replace hX := hide (show Calls Tryz.prog _ _ wy fun e w' => e = .returned (.agg #[.int .i64 tw, .bool tr, .bool tf]) ∧ Below wy.heap.size wy w' from hX.out)
    cases tr with
    | true =>
     have hres := hide (hst.out 9 hkr.out)
     clear hnx hst
     go_wp2_with (first | (go_at_call 35; with_reducible refine (tbits_t _ _ _).mono ?_; rintro e w2 ⟨rfl, hw2⟩) | (go_at_call 29; refine hX.out.mono ?_; rintro e w1 ⟨rfl, hw1⟩))
     exact ⟨rfl, by rw [hres.out]; rfl, hw.out.trans ((hbX.out.trans ((hw1.trans (hw2.mono hw1.size)).mono hbX.out.size)).mono (by omega))⟩
    | false =>
     cases tf with
     | true =>
      have hres := hide (hst.out 10 hkr.out)
      clear hnx hst
      go_wp2_with (first | (go_at_call 35; with_reducible refine (tbits_f _ _).mono ?_; rintro e w2 ⟨rfl, hw2⟩) | (go_at_call 29; refine hX.out.mono ?_; rintro e w1 ⟨rfl, hw1⟩))
      exact ⟨rfl, by rw [hres.out]; rfl, hw.out.trans ((hbX.out.trans ((hw1.trans (hw2.mono hw1.size)).mono hbX.out.size)).mono (by omega))⟩
     | false =>
      have hres := hide (hnx.out hkr.out)
      clear hnx hst
      go_wp2_with (first | (go_at_call 35; with_reducible refine (tbits_k _ _).mono ?_; rintro e w2 ⟨rfl, hw2⟩) | (go_at_call 29; refine hX.out.mono ?_; rintro e w1 ⟨rfl, hw1⟩))
      go_roundw
      case rel => exact ⟨k + 1, by omega, by go_num, hres, hide (hbX.out.trans ((hw1.trans (hw2.mono hw1.size)).mono hbX.out.size))⟩
      case measure => simp [intOf]; omega
  ·have hfull := hide (show firstE (keyR p) keys = .ok () from by rw [← ht.out, List.take_of_length_le (by omega)])
   go_wp2
   (try simp only [Exit.inBlock, Exit.then])
   refine bodyPost_end (results_none rfl _ _ _) rfl ?_
   exact ⟨by rw [hfull.out]; rfl, hw.out.trans (hbr.out.mono (by omega))⟩
end Go.Proofs.YtbbdhknagofghaaGreat
/-! Printed by gen_typm.py. Layer 8: item at a statement, and where nothing is looked at. -/
namespace Go.Proofs.YtbbdhknagofghaaGreat
open Go.RowKit
set_option maxRecDepth 100000 in
set_option maxHeartbeats 16000000 in
theorem titem_stmt (A1 A2 A3 A4 A5 A6 A7 : Option Addr) (p : Pg) (c1 c2 c3 c4 c5 c6 c7 : Nat) (B : Nat) (hm : mayP p = true) (a b : Int) (st : St) (he : ∀ kind head name e thn els, st = .mk kind head name e thn els → (kind = 1 ∨ kind = 2 ∨ kind = 5 → allE e = true) ∧ (kind = 1 → setB p head name)) (s0 s1 s2 s3 s4 s5 s6 s7 s8 s9 s10 s11 s12 s13 : Value) (w : World) (hB : B ≤ w.heap.size) (hP : PgS w B A1 A2 A3 A4 A5 A6 A7 p) (hst : rSt w B [s0, s1, s2, s3, s4, s5, s6, s7, s8, s9, s10, s11, s12, s13] st) :
  Calls Tryz.prog 21 #[.agg #[.slice A1 p.headers.length c1, .slice A2 p.metas.length c2, .slice A3 p.states.length c3, .slice A4 p.actions.length c4, .slice A5 p.tables.length c5, .slice A6 p.control.length c6, .slice A7 p.emit.length c7], .agg #[.int .u8 10, .int .i64 a, .int .i64 b, s0, s1, s2, s3, s4, s5, s6, s7, s8, s9, s10, s11, s12, s13]] w fun z7 w' => z7 = endU (stR p a st) ∧ Below w.heap.size w w' := by
 obtain ⟨wu, hwu, hsu, hbu, hcu, hfu⟩ := box1 w #[.slice A1 p.headers.length c1, .slice A2 p.metas.length c2, .slice A3 p.states.length c3, .slice A4 p.actions.length c4, .slice A5 p.tables.length c5, .slice A6 p.control.length c6, .slice A7 p.emit.length c7] 30
 obtain ⟨wx, hwx, hsx, hbx, hcx, hfx⟩ := box1 wu #[.int .u8 10, .int .i64 a, .int .i64 b, s0, s1, s2, s3, s4, s5, s6, s7, s8, s9, s10, s11, s12, s13] 49
 have hEx : Below wx.heap.size wx wx := Below.refl _ _
 have hEu : Below wu.heap.size wu wx := hbx.trans (hEx.mono (by omega))
 have hw := hide (hbu.trans (hEu.mono (by omega)))
 have cu := fun i => (hEu.cell (p := ⟨w.heap.size, i, none⟩) (by show w.heap.size < _; omega)).trans (hcu i)
 have cx := fun i => (hEx.cell (p := ⟨wu.heap.size, i, none⟩) (by show wu.heap.size < _; omega)).trans (hcx i)
 have hfr := hfx
 simp only [hsu] at cx hfr
 obtain ⟨u0, u1, u2, u3, u4, u5, u6⟩ := row7 cu
 obtain ⟨x0, x1, x2, x3, x4, x5, x6, x7, x8, x9, x10, x11, x12, x13, x14, x15, x16⟩ := row17 cx
 have hl1 : w.heap.size < wx.heap.size := by omega
 have hl2 : w.heap.size + 1 < wx.heap.size := by omega
 clear cu hcu hbu hfu cx hcx hbx hfx hEu hEx
 replace hsx := hide hsx
 obtain ⟨wv, hwv, hsv, hbv, hcv, -⟩ := box1 wx #[.slice A1 p.headers.length c1, .slice A2 p.metas.length c2, .slice A3 p.states.length c3, .slice A4 p.actions.length c4, .slice A5 p.tables.length c5, .slice A6 p.control.length c6, .slice A7 p.emit.length c7, .int .i64 (-1)] 88
 obtain ⟨v0, v1, v2, v3, v4, v5, v6, v7⟩ := row8 hcv
 have kv := bcell' hbv
 have hl3 : wx.heap.size < wv.heap.size := by omega
 have m1 := Nat.lt_of_lt_of_le hl1 hbv.size
 have m2 := Nat.lt_of_lt_of_le hl2 hbv.size
 replace hw := hide (hw.out.trans (hbv.mono (by omega)))
 clear hcv
 replace hsv := hide hsv
 have hBv : B ≤ wv.heap.size := by omega
 have hPz := hide (hP.below (hw.out.mono hB))
 clear hP
 have hX := hide (show Calls Tryz.prog 37 #[.agg #[.slice A1 p.headers.length c1, .slice A2 p.metas.length c2, .slice A3 p.states.length c3, .slice A4 p.actions.length c4, .slice A5 p.tables.length c5, .slice A6 p.control.length c6, .slice A7 p.emit.length c7, .int .i64 a], .agg #[s0, s1, s2, s3, s4, s5, s6, s7, s8, s9, s10, s11, s12, s13]] wv _ from tstmt_any A1 A2 A3 A4 A5 A6 A7 p c1 c2 c3 c4 c5 c6 c7 a B hm st he [s0, s1, s2, s3, s4, s5, s6, s7, s8, s9, s10, s11, s12, s13] wv hBv hPz.out (sta_st.keep hst fun q hq => (hw.out.mono hB).cell hq))
 generalize stR p a st = r at hX ⊢
 clear hst he hPz
 cases r with
 | error n7 =>
  replace hX := hide (show Calls Tryz.prog _ _ wv fun e w' => e = noE n7 ∧ Below wv.heap.size wv w' from hX.out)
  go_enter Tryz.func21, Tryz.ntmps21
  go_wp2_with (go_at_call 37; refine hX.out.mono ?_; rintro e w3 ⟨rfl, hb3⟩)
  exact ⟨rfl, rfl, hw.out.trans (hb3.mono (by omega))⟩
 | ok u =>
  replace hX := hide (show Calls Tryz.prog _ _ wv fun e w' => e = .returned (.tuple #[]) ∧ Below wv.heap.size wv w' from hX.out)
  go_enter Tryz.func21, Tryz.ntmps21
  go_wp2_with (go_at_call 37; refine hX.out.mono ?_; rintro e w3 ⟨rfl, hb3⟩)
  (try simp only [Exit.inBlock, Exit.then])
  refine bodyPost_end (results_none rfl _ _ _) rfl ?_
  exact ⟨rfl, hw.out.trans (hb3.mono (by omega))⟩
set_option maxRecDepth 100000 in
set_option maxHeartbeats 16000000 in
theorem titem_none (A1 A2 A3 A4 A5 A6 A7 : Option Addr) (p : Pg) (c1 c2 c3 c4 c5 c6 c7 : Nat) (B : Nat) (hm : mayP p = true) (k a b : Int) (n6 : ¬ k = 6) (n7 : ¬ k = 7) (n10 : ¬ k = 10) (n12 : ¬ k = 12) (n14 : ¬ k = 14) (s0 s1 s2 s3 s4 s5 s6 s7 s8 s9 s10 s11 s12 s13 : Value) (w : World) (hB : B ≤ w.heap.size) (hP : PgS w B A1 A2 A3 A4 A5 A6 A7 p) :
  Calls Tryz.prog 21 #[.agg #[.slice A1 p.headers.length c1, .slice A2 p.metas.length c2, .slice A3 p.states.length c3, .slice A4 p.actions.length c4, .slice A5 p.tables.length c5, .slice A6 p.control.length c6, .slice A7 p.emit.length c7], .agg #[.int .u8 k, .int .i64 a, .int .i64 b, s0, s1, s2, s3, s4, s5, s6, s7, s8, s9, s10, s11, s12, s13]] w fun z7 w' => z7 = endU (.ok ()) ∧ Below w.heap.size w w' := by
 obtain ⟨wu, hwu, hsu, hbu, hcu, hfu⟩ := box1 w #[.slice A1 p.headers.length c1, .slice A2 p.metas.length c2, .slice A3 p.states.length c3, .slice A4 p.actions.length c4, .slice A5 p.tables.length c5, .slice A6 p.control.length c6, .slice A7 p.emit.length c7] 30
 obtain ⟨wx, hwx, hsx, hbx, hcx, hfx⟩ := box1 wu #[.int .u8 k, .int .i64 a, .int .i64 b, s0, s1, s2, s3, s4, s5, s6, s7, s8, s9, s10, s11, s12, s13] 49
 have hEx : Below wx.heap.size wx wx := Below.refl _ _
 have hEu : Below wu.heap.size wu wx := hbx.trans (hEx.mono (by omega))
 have hw := hide (hbu.trans (hEu.mono (by omega)))
 have cu := fun i => (hEu.cell (p := ⟨w.heap.size, i, none⟩) (by show w.heap.size < _; omega)).trans (hcu i)
 have cx := fun i => (hEx.cell (p := ⟨wu.heap.size, i, none⟩) (by show wu.heap.size < _; omega)).trans (hcx i)
 have hfr := hfx
 simp only [hsu] at cx hfr
 obtain ⟨u0, u1, u2, u3, u4, u5, u6⟩ := row7 cu
 obtain ⟨x0, x1, x2, x3, x4, x5, x6, x7, x8, x9, x10, x11, x12, x13, x14, x15, x16⟩ := row17 cx
 have hl1 : w.heap.size < wx.heap.size := by omega
 have hl2 : w.heap.size + 1 < wx.heap.size := by omega
 clear cu hcu hbu hfu cx hcx hbx hfx hEu hEx
 replace hsx := hide hsx
 obtain ⟨wv, hwv, hsv, hbv, hcv, -⟩ := box1 wx #[.slice A1 p.headers.length c1, .slice A2 p.metas.length c2, .slice A3 p.states.length c3, .slice A4 p.actions.length c4, .slice A5 p.tables.length c5, .slice A6 p.control.length c6, .slice A7 p.emit.length c7, .int .i64 (-1)] 88
 obtain ⟨v0, v1, v2, v3, v4, v5, v6, v7⟩ := row8 hcv
 have kv := bcell' hbv
 have hl3 : wx.heap.size < wv.heap.size := by omega
 have m1 := Nat.lt_of_lt_of_le hl1 hbv.size
 have m2 := Nat.lt_of_lt_of_le hl2 hbv.size
 replace hw := hide (hw.out.trans (hbv.mono (by omega)))
 clear hcv
 replace hsv := hide hsv
 have hBv : B ≤ wv.heap.size := by omega
 have hPz := hide (hP.below (hw.out.mono hB))
 clear hP
 have i6 : (k == 6) = false := beq_eq_false_iff_ne.2 n6
 have i7 : (k == 7) = false := beq_eq_false_iff_ne.2 n7
 have i10 : (k == 10) = false := beq_eq_false_iff_ne.2 n10
 have i12 : (k == 12) = false := beq_eq_false_iff_ne.2 n12
 have i14 : (k == 14) = false := beq_eq_false_iff_ne.2 n14
 clear hPz
 go_enter Tryz.func21, Tryz.ntmps21
 go_wp2
 (try simp only [Exit.inBlock, Exit.then])
 refine bodyPost_end (results_none rfl _ _ _) rfl ?_
 exact ⟨rfl, hw.out⟩
end Go.Proofs.YtbbdhknagofghaaGreat

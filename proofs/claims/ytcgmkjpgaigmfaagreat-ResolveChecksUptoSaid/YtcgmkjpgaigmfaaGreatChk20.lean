import Derived.Test.YtcgmkjpgaigmfaaGreatChk18
import Derived.Test.YtcgmkjpgaigmfaaGreatChk19
set_option linter.all false
/-! Printed by gen_check.py. Layer 7: check: what is wrong with an item. -/
namespace Go.Proofs.YtcgmkjpgaigmfaaGreat
open Go.RowKit
theorem sindexS_b (A : Option Addr) (cap : Nat) (xs : List ByteArray) (n : ByteArray) (w : World) (h : Sl 1 rStr w w.heap.size A xs) :
  Calls Tryz.prog 65 #[.slice A xs.length cap, .string n] w fun e w' => e = .returned (.int .i64 (findI xs n)) ∧ Below w.heap.size w w' :=
 (sindexS_any A cap xs n w h).mono fun _ _ ⟨h1, h2⟩ => ⟨h1, h2 ▸ Below.refl _ _⟩
theorem Sl.grownS {α : Type} {R : CR α} {k : Nat} {w : World} {B : Nat} {A : Option Addr} {xs : List α} (sR : Sta R) (h : Sl k R w B A xs) (hB : B ≤ w.heap.size) (d : Nat) (os : Array Obj) :
  Sl k R (Go.Sort.grow (redrawn w d) os) (Go.Sort.grow (redrawn w d) os).heap.size A xs :=
 (h.below sR ((below_regrown w d os).mono hB)).more sR (Nat.le_trans hB (gsize w d os))
set_option maxRecDepth 100000 in
set_option maxHeartbeats 8000000 in
theorem check_listed (A1 A2 A3 A4 A5 A6 A7 : Option Addr) (p : Pg) (c1 c2 c3 c4 c5 c6 c7 : Nat) (B i : Nat) (j : Nat) (f : Ta) (g : ByteArray) (s0 s1 s2 s3 s4 s5 s6 s7 s8 s9 s10 s11 s12 s13 : Value) (w : World) (hB : B ≤ w.heap.size) (hP : PgS w B A1 A2 A3 A4 A5 A6 A7 p) (hi : p.tables[i]? = some f) (hj : f.actions[j]? = some g) :
  Calls Tryz.prog 21 #[.agg #[.slice A1 p.headers.length c1, .slice A2 p.metas.length c2, .slice A3 p.states.length c3, .slice A4 p.actions.length c4, .slice A5 p.tables.length c5, .slice A6 p.control.length c6, .slice A7 p.emit.length c7], .agg #[.int .u8 13, .int .i64 (i : Int), .int .i64 (j : Int), s0, s1, s2, s3, s4, s5, s6, s7, s8, s9, s10, s11, s12, s13]] w fun r w' => r = .returned (.int .i64 (eitherI (isI (decide (actionI p g < 0)) 7) (isI (decide (findI f.actions g < (j : Int))) 8))) ∧ Below w.heap.size w w' := by
 obtain ⟨wa, hwa, hsa, hba, hca, -⟩ := box1 w #[.slice A1 p.headers.length c1, .slice A2 p.metas.length c2, .slice A3 p.states.length c3, .slice A4 p.actions.length c4, .slice A5 p.tables.length c5, .slice A6 p.control.length c6, .slice A7 p.emit.length c7] 30
 obtain ⟨wb, hwb, hsb, hbb, hcb, -⟩ := box1 wa #[.int .u8 13, .int .i64 (i : Int), .int .i64 (j : Int), s0, s1, s2, s3, s4, s5, s6, s7, s8, s9, s10, s11, s12, s13] 77
 have hw := hba.trans (hbb.mono (by omega))
 have q : ∀ i, wb.cell? ⟨w.heap.size, i, none⟩ = wa.cell? ⟨w.heap.size, i, none⟩ := fun i => hbb.cell (p := ⟨w.heap.size, i, none⟩) (by show w.heap.size < _; omega)
 have hqz := fun i => (q i).trans (hca i)
 obtain ⟨z0, z1, z2, z3, z4, z5, z6⟩ := row7 (w := wb) (a := w.heap.size) fun i => hqz i
 simp only [hsa] at hcb
 obtain ⟨y0, y1, y2, y3, y4, y5, y6, y7, y8, y9, y10, y11, y12, y13, y14, y15, y16⟩ := row17 hcb
 have hl1 : w.heap.size < wb.heap.size := by omega
 have hl2 : w.heap.size + 1 < wb.heap.size := by omega
 have hz2 : w.heap.size + 2 ≤ wb.heap.size := by omega
 have hBb : B ≤ wb.heap.size := by omega
 have hP2 := hP.below (hw.mono hB)
 have hb0 : Below wb.heap.size wb wb := Below.refl _ _
 have hwC := hide hw
 replace hsb := hide hsb
 have eg := enters_twice
 clear hP hqz q hbb hba hca hcb
 have lst := hP2.tables.len
 obtain ⟨b, o, ecs, hA, hb, hel, hcell, B1, d1, B2, d2, B3, d3, rfl, hn, hd, hF, hG, hH⟩ := hP2.tables.2 i _ hi
 subst hA
 obtain ⟨x0, x1, x2, x3, x4⟩ := srow5 hcell
 have hbw : b < wb.heap.size := by omega
 have hiz : (i : Int) < (p.tables.length : Int) := by have := (List.getElem?_eq_some_iff.1 hi).1; omega
 have hlf := hF.len
 have hlg := hG.len
 have hlh := hH.len
 have hjl := (List.getElem?_eq_some_iff.1 hj).1
 obtain ⟨b', o', u, hA', hb', hcell', hr, hz⟩ := hG.at1 hjl
 subst hA'
 cases hr
 rw [(List.getElem?_eq_some_iff.1 hj).2] at hcell' hz
 have hbw' : b' < wb.heap.size := by omega
 have hjz : (j : Int) < (f.actions.length : Int) := by omega
 have hg := gcell' hb0 hb0.size
 go_enter Tryz.func21, Tryz.ntmps21
 replace hP2 := hide hP2
 replace hG := hide hG
 clear hcell hi hj eg hF hH
 go_wp2_with fail
 refine wp_region_quiet_below (by kernel_rfl) (by kernel_rfl) ?_
 repeat (any_goals (first | go_big_quiet_step (fail) | quiet_step (fail)))
 refine wpQuiet_nil ?_
 intro w1 hw1
 replace hw1 := below_of_regrown hw1
 clear hg
 have hc1 := bcell' hw1
 have hB1 : B ≤ w1.heap.size := by have := hw1.size; omega
 have hP1 := hP2.out.below (hw1.mono hBb)
 have hG1 := hG.out.below sta_str (hw1.mono hBb)
 have hg := gcell' hw1 hw1.size
 have hI : ∀ b n d os, Hid (Calls Tryz.prog 57 #[.bool b, .int .i64 n] (Go.Sort.grow (redrawn w1 d) os) _) := fun b n d os => hide (is_b b n _)
 have hE : ∀ x y d os, Hid (Calls Tryz.prog 58 #[.int .i64 x, .int .i64 y] (Go.Sort.grow (redrawn w1 d) os) _) := fun x y d os => hide (either_b x y _)
 have hX : ∀ d os, Hid (Calls Tryz.prog 12 #[.agg #[.slice A1 p.headers.length c1, .slice A2 p.metas.length c2, .slice A3 p.states.length c3, .slice A4 p.actions.length c4, .slice (some ⟨b, o, none⟩) p.tables.length c5, .slice A6 p.control.length c6, .slice A7 p.emit.length c7], .string g] (Go.Sort.grow (redrawn w1 d) os) _) := fun d os => hide (action_any _ A1 A2 A3 A4 (some ⟨b, o, none⟩) A6 A7 p c1 c2 c3 c4 c5 c6 c7 g (hP1.grown hB1 d os).1 (hP1.grown hB1 d os).2)
 have hS : ∀ d os, Hid (Calls Tryz.prog 65 #[.slice (some ⟨b', o', none⟩) f.actions.length d2, .string g] (Go.Sort.grow (redrawn w1 d) os) _) := fun d os => hide (sindexS_b _ d2 f.actions g _ (hG1.grownS sta_str hB1 d os))
 generalize hzz : actionI p g = zz at hX
 generalize hzf : findI f.actions g = zf at hS
 replace hzz := hide hzz
 replace hzf := hide hzf
 replace hP1 := hide hP1
 replace hG1 := hide hG1
 replace hw1 := hide hw1
 clear hb0
 go_wp2_with fail
 refine wp_region_quiet_below (by kernel_rfl) (by kernel_rfl) ?_
 repeat (any_goals (first | go_big_quiet_step (first | (go_at_call 57; with_reducible exact Calls.regrown_of (hI _ _ _ _).out) | (go_at_call 58; with_reducible exact Calls.regrown_of (hE _ _ _ _).out) | (go_at_call 12; with_reducible exact Calls.regrown_of (hX _ _).out) | (go_at_call 65; with_reducible exact Calls.regrown_of (hS _ _).out)) | quiet_step (first | (go_at_call 57; with_reducible exact Calls.regrown_of (hI _ _ _ _).out) | (go_at_call 58; with_reducible exact Calls.regrown_of (hE _ _ _ _).out) | (go_at_call 12; with_reducible exact Calls.regrown_of (hX _ _).out) | (go_at_call 65; with_reducible exact Calls.regrown_of (hS _ _).out))))
 refine wpQuiet_nil ?_
 intro w2 hw2
 replace hw2 := below_of_regrown hw2
 go_wp2
 go_ret
 exact ⟨ret_int (by rw [hzz.out, hzf.out]), (hwC.out.trans (hw1.out.mono (by omega))).trans (hw2.mono (by have := hw1.out.size; omega))⟩
set_option maxRecDepth 100000 in
set_option maxHeartbeats 8000000 in
theorem check_emit (A1 A2 A3 A4 A5 A6 A7 : Option Addr) (p : Pg) (c1 c2 c3 c4 c5 c6 c7 : Nat) (B i : Nat) (g : ByteArray) (s0 s1 s2 s3 s4 s5 s6 s7 s8 s9 s10 s11 s12 s13 : Value) (w : World) (hB : B ≤ w.heap.size) (hP : PgS w B A1 A2 A3 A4 A5 A6 A7 p) (hi : p.emit[i]? = some g) :
  Calls Tryz.prog 21 #[.agg #[.slice A1 p.headers.length c1, .slice A2 p.metas.length c2, .slice A3 p.states.length c3, .slice A4 p.actions.length c4, .slice A5 p.tables.length c5, .slice A6 p.control.length c6, .slice A7 p.emit.length c7], .agg #[.int .u8 15, .int .i64 (i : Int), .int .i64 0, s0, s1, s2, s3, s4, s5, s6, s7, s8, s9, s10, s11, s12, s13]] w fun r w' => r = .returned (.int .i64 (eitherI (isI (decide (headerI p g < 0)) 7) (isI (decide (findI p.emit g < (i : Int))) 8))) ∧ Below w.heap.size w w' := by
 obtain ⟨wa, hwa, hsa, hba, hca, -⟩ := box1 w #[.slice A1 p.headers.length c1, .slice A2 p.metas.length c2, .slice A3 p.states.length c3, .slice A4 p.actions.length c4, .slice A5 p.tables.length c5, .slice A6 p.control.length c6, .slice A7 p.emit.length c7] 30
 obtain ⟨wb, hwb, hsb, hbb, hcb, -⟩ := box1 wa #[.int .u8 15, .int .i64 (i : Int), .int .i64 0, s0, s1, s2, s3, s4, s5, s6, s7, s8, s9, s10, s11, s12, s13] 77
 have hw := hba.trans (hbb.mono (by omega))
 have q : ∀ i, wb.cell? ⟨w.heap.size, i, none⟩ = wa.cell? ⟨w.heap.size, i, none⟩ := fun i => hbb.cell (p := ⟨w.heap.size, i, none⟩) (by show w.heap.size < _; omega)
 have hqz := fun i => (q i).trans (hca i)
 obtain ⟨z0, z1, z2, z3, z4, z5, z6⟩ := row7 (w := wb) (a := w.heap.size) fun i => hqz i
 simp only [hsa] at hcb
 obtain ⟨y0, y1, y2, y3, y4, y5, y6, y7, y8, y9, y10, y11, y12, y13, y14, y15, y16⟩ := row17 hcb
 have hl1 : w.heap.size < wb.heap.size := by omega
 have hl2 : w.heap.size + 1 < wb.heap.size := by omega
 have hz2 : w.heap.size + 2 ≤ wb.heap.size := by omega
 have hBb : B ≤ wb.heap.size := by omega
 have hP2 := hP.below (hw.mono hB)
 have hb0 : Below wb.heap.size wb wb := Below.refl _ _
 have hwC := hide hw
 replace hsb := hide hsb
 have eg := enters_twice
 clear hP hqz q hbb hba hca hcb
 have lst := hP2.emit.len
 have hil := (List.getElem?_eq_some_iff.1 hi).1
 obtain ⟨b, o, u, hA, hb, hcell, hr, hz⟩ := hP2.emit.at1 hil
 subst hA
 cases hr
 rw [(List.getElem?_eq_some_iff.1 hi).2] at hcell hz
 have hbw : b < wb.heap.size := by omega
 have hiz : (i : Int) < (p.emit.length : Int) := by omega
 have hg := gcell' hb0 hb0.size
 have hI : ∀ b n d os, Hid (Calls Tryz.prog 57 #[.bool b, .int .i64 n] (Go.Sort.grow (redrawn wb d) os) _) := fun b n d os => hide (is_b b n _)
 have hE : ∀ x y d os, Hid (Calls Tryz.prog 58 #[.int .i64 x, .int .i64 y] (Go.Sort.grow (redrawn wb d) os) _) := fun x y d os => hide (either_b x y _)
 have hX : ∀ d os, Hid (Calls Tryz.prog 10 #[.agg #[.slice A1 p.headers.length c1, .slice A2 p.metas.length c2, .slice A3 p.states.length c3, .slice A4 p.actions.length c4, .slice A5 p.tables.length c5, .slice A6 p.control.length c6, .slice (some ⟨b, o, none⟩) p.emit.length c7], .string g] (Go.Sort.grow (redrawn wb d) os) _) := fun d os => hide (header_any _ A1 A2 A3 A4 A5 A6 (some ⟨b, o, none⟩) p c1 c2 c3 c4 c5 c6 c7 g (hP2.grown hBb d os).1 (hP2.grown hBb d os).2)
 have hS : ∀ d os, Hid (Calls Tryz.prog 65 #[.slice (some ⟨b, o, none⟩) p.emit.length c7, .string g] (Go.Sort.grow (redrawn wb d) os) _) := fun d os => hide (sindexS_b _ c7 p.emit g _ (hP2.emit.grownS sta_str hBb d os))
 generalize headerI p g = zz at hX ⊢
 generalize findI p.emit g = zf at hS ⊢
 replace hP2 := hide hP2
 clear hb0 hi eg
 go_enter Tryz.func21, Tryz.ntmps21
 go_wp2_with fail
 refine wp_region_quiet_below (by kernel_rfl) (by kernel_rfl) ?_
 repeat (any_goals (first | go_big_quiet_step (first | (go_at_call 57; with_reducible exact Calls.regrown_of (hI _ _ _ _).out) | (go_at_call 58; with_reducible exact Calls.regrown_of (hE _ _ _ _).out) | (go_at_call 10; with_reducible exact Calls.regrown_of (hX _ _).out) | (go_at_call 65; with_reducible exact Calls.regrown_of (hS _ _).out)) | quiet_step (first | (go_at_call 57; with_reducible exact Calls.regrown_of (hI _ _ _ _).out) | (go_at_call 58; with_reducible exact Calls.regrown_of (hE _ _ _ _).out) | (go_at_call 10; with_reducible exact Calls.regrown_of (hX _ _).out) | (go_at_call 65; with_reducible exact Calls.regrown_of (hS _ _).out))))
 refine wpQuiet_nil ?_
 intro w1 hw1
 replace hw1 := below_of_regrown hw1
 go_wp2
 go_ret
 exact ⟨rfl, hwC.out.trans (hw1.mono (by omega))⟩
end Go.Proofs.YtcgmkjpgaigmfaaGreat
/-! Layer 7: check, of any item of a program. -/
namespace Go.Proofs.YtcgmkjpgaigmfaaGreat
open Go.RowKit
def rIt : CR It := fun w B cs x => ∃ scs, cs = .int .u8 x.kind :: .int .i64 x.a :: .int .i64 x.b :: scs ∧ rSt w B scs x.s
theorem sta_it : Sta rIt := ⟨fun ⟨scs, e, h⟩ hk => ⟨scs, e, sta_st.keep h hk⟩, fun ⟨scs, e, h⟩ hB => ⟨scs, e, sta_st.more h hB⟩⟩
theorem rSt_form {w : World} {B : Nat} {cs : List Value} {s : St} (h : rSt w B cs s) : ∃ s0 s1 s2 s3 s4 s5 s6 s7 s8 s9 s10 s11 s12 s13, cs = [s0, s1, s2, s3, s4, s5, s6, s7, s8, s9, s10, s11, s12, s13] := by
 obtain ⟨kind, head, name, e, thn, els⟩ := s
 obtain ⟨es, A, cap, A', cap', rfl, -, -, -, he, hT, hE⟩ := RS.inv h
 obtain ⟨op, lit, ehead, ename, hi, lo, args⟩ := e
 obtain ⟨Ae, ecap, rfl, -⟩ := RE.inv he
 exact ⟨_, _, _, _, _, _, _, _, _, _, _, _, _, _, rfl⟩
theorem items_stmtS (a : Int) (s : St) : ∀ x ∈ itemsS a s, ∃ st, x = ⟨10, a, 0, st⟩ := by
 induction s using St.ind with
 | h kind head name e thn els ih1 ih2 =>
  have g : ∀ l : List St, (∀ y ∈ l, ∀ x ∈ itemsS a y, ∃ st, x = ⟨10, a, 0, st⟩) → ∀ x ∈ itemsL a l, ∃ st, x = (⟨10, a, 0, st⟩ : It) := by
   intro l h x hx
   rw [itemsL_flat, List.mem_flatMap] at hx
   obtain ⟨y, hy, hx⟩ := hx
   exact h y hy x hx
  intro x hx
  simp only [itemsS, List.mem_cons, List.mem_append] at hx
  rcases hx with rfl | hx | hx
  ·exact ⟨_, rfl⟩
  ·exact g thn ih1 x hx
  ·exact g els ih2 x hx
theorem items_stmt (a : Int) (l : List St) : ∀ x ∈ itemsL a l, ∃ st, x = ⟨10, a, 0, st⟩ := by
 intro x hx
 rw [itemsL_flat, List.mem_flatMap] at hx
 obtain ⟨y, hy, hx⟩ := hx
 exact items_stmtS a y x hx
theorem mem_eachI' {α : Type} {kind : Int} {l : List α} {g : Nat → α → List It} {x : It} (h : x ∈ eachI kind l g) : ∃ (i : Nat) (a : α), l[i]? = some a ∧ (x = ⟨kind, (i : Int), 0, zSt⟩ ∨ x ∈ g i a) := by
 obtain ⟨⟨a, i⟩, hm, hx⟩ := List.mem_flatMap.1 h
 rw [List.mem_zipIdx_iff_getElem?] at hm
 rcases List.mem_cons.1 hx with hx | hx
 ·exact ⟨i, a, hm, .inl hx⟩
 ·exact ⟨i, a, hm, .inr hx⟩
theorem mem_manyI' {kind : Int} {a n : Nat} {x : It} (h : x ∈ manyI kind a n) : ∃ j : Nat, j < n ∧ x = ⟨kind, (a : Int), (j : Int), zSt⟩ := by
 obtain ⟨j, hj, rfl⟩ := List.mem_map.1 h
 exact ⟨j, List.mem_range.1 hj, rfl⟩
theorem items_elim {p : Pg} {P : It → Prop}
  (h1 : ∀ (i : Nat) (f : Hd), p.headers[i]? = some f → P ⟨1, i, 0, zSt⟩)
  (h2 : ∀ (i j : Nat) (f : Hd) (g : Fd), p.headers[i]? = some f → f.fields[j]? = some g → P ⟨2, i, j, zSt⟩)
  (h3 : ∀ (i : Nat) (f : Fd), p.metas[i]? = some f → P ⟨3, i, 0, zSt⟩)
  (h4 : ∀ (i : Nat) (f : Sa), p.states[i]? = some f → P ⟨4, i, 0, zSt⟩)
  (h5 : ∀ (i j : Nat) (f : Sa) (g : ByteArray), p.states[i]? = some f → f.takes[j]? = some g → P ⟨5, i, j, zSt⟩)
  (h6 : ∀ (i : Nat) (f : Sa), p.states[i]? = some f → P ⟨6, i, 0, zSt⟩)
  (h7 : ∀ (i j : Nat) (f : Sa) (g : Ca), p.states[i]? = some f → f.cases_[j]? = some g → P ⟨7, i, j, zSt⟩)
  (h8 : ∀ (i : Nat) (f : Ac), p.actions[i]? = some f → P ⟨8, i, 0, zSt⟩)
  (h9 : ∀ (i j : Nat) (f : Ac) (g : Fd), p.actions[i]? = some f → f.params[j]? = some g → P ⟨9, i, j, zSt⟩)
  (h10 : ∀ (a : Int) (st : St), P ⟨10, a, 0, st⟩)
  (h11 : ∀ (i : Nat) (f : Ta), p.tables[i]? = some f → P ⟨11, i, 0, zSt⟩)
  (h12 : ∀ (i j : Nat) (f : Ta) (g : Ky), p.tables[i]? = some f → f.keys[j]? = some g → P ⟨12, i, j, zSt⟩)
  (h13 : ∀ (i j : Nat) (f : Ta) (g : ByteArray), p.tables[i]? = some f → f.actions[j]? = some g → P ⟨13, i, j, zSt⟩)
  (h14 : ∀ (i : Nat) (f : Ta), p.tables[i]? = some f → P ⟨14, i, 0, zSt⟩)
  (h15 : ∀ (i : Nat) (g : ByteArray), p.emit[i]? = some g → P ⟨15, i, 0, zSt⟩) : ∀ x ∈ itemsP p, P x := by
 have G : ∀ {α : Type} {l : List α} {j : Nat}, j < l.length → ∃ a, l[j]? = some a := fun h => ⟨_, List.getElem?_eq_getElem h⟩
 intro x hx
 simp only [itemsP, headsI, metasI, statesI, actsI, tabsI, emitsI, List.mem_append] at hx
 rcases hx with hx | hx | hx | hx | hx | hx | hx
 ·obtain ⟨i, f, hi, rfl | hx⟩ := mem_eachI' hx
  ·exact h1 i f hi
  ·obtain ⟨j, hj, rfl⟩ := mem_manyI' hx
   obtain ⟨g, hg⟩ := G hj
   exact h2 i j f g hi hg
 ·obtain ⟨i, f, hi, rfl | hx⟩ := mem_eachI' hx
  ·exact h3 i f hi
  ·simp at hx
 ·obtain ⟨i, f, hi, rfl | hx⟩ := mem_eachI' hx
  ·exact h4 i f hi
  ·rw [List.mem_append, List.mem_cons] at hx
   rcases hx with hx | rfl | hx
   ·obtain ⟨j, hj, rfl⟩ := mem_manyI' hx
    obtain ⟨g, hg⟩ := G hj
    exact h5 i j f g hi hg
   ·exact h6 i f hi
   ·obtain ⟨j, hj, rfl⟩ := mem_manyI' hx
    obtain ⟨g, hg⟩ := G hj
    exact h7 i j f g hi hg
 ·obtain ⟨i, f, hi, rfl | hx⟩ := mem_eachI' hx
  ·exact h8 i f hi
  ·rcases List.mem_append.1 hx with hx | hx
   ·obtain ⟨j, hj, rfl⟩ := mem_manyI' hx
    obtain ⟨g, hg⟩ := G hj
    exact h9 i j f g hi hg
   ·obtain ⟨st, rfl⟩ := items_stmt _ _ x hx
    exact h10 _ st
 ·obtain ⟨i, f, hi, rfl | hx⟩ := mem_eachI' hx
  ·exact h11 i f hi
  ·rw [List.mem_append, List.mem_append, List.mem_singleton] at hx
   rcases hx with hx | hx | rfl
   ·obtain ⟨j, hj, rfl⟩ := mem_manyI' hx
    obtain ⟨g, hg⟩ := G hj
    exact h12 i j f g hi hg
   ·obtain ⟨j, hj, rfl⟩ := mem_manyI' hx
    obtain ⟨g, hg⟩ := G hj
    exact h13 i j f g hi hg
   ·exact h14 i f hi
 ·obtain ⟨st, rfl⟩ := items_stmt _ _ x hx
  exact h10 _ st
 ·obtain ⟨i, f, hi, rfl | hx⟩ := mem_eachI' hx
  ·exact h15 i f hi
  ·simp at hx
set_option maxRecDepth 100000 in
set_option maxHeartbeats 1000000 in
theorem check_any (A1 A2 A3 A4 A5 A6 A7 : Option Addr) (p : Pg) (c1 c2 c3 c4 c5 c6 c7 : Nat) (B : Nat) (hm : mayP p = true) : ∀ x ∈ itemsP p, ∀ (cs : List Value) (w : World), B ≤ w.heap.size → PgS w B A1 A2 A3 A4 A5 A6 A7 p → rIt w B cs x →
  Calls Tryz.prog 21 #[.agg #[.slice A1 p.headers.length c1, .slice A2 p.metas.length c2, .slice A3 p.states.length c3, .slice A4 p.actions.length c4, .slice A5 p.tables.length c5, .slice A6 p.control.length c6, .slice A7 p.emit.length c7], .agg cs.toArray] w fun r w' => r = .returned (.int .i64 (checkI p x)) ∧ Below w.heap.size w w' := by
 have hh : ∀ (i : Nat) (f : Hd), p.headers[i]? = some f → hdB f = true := fun i f hi => by
  simp only [mayP, Bool.and_eq_true] at hm
  exact List.all_eq_true.1 hm.1.1.1.1.1.1.2 f (List.mem_of_getElem? hi)
 refine items_elim ?_ ?_ ?_ ?_ ?_ ?_ ?_ ?_ ?_ ?_ ?_ ?_ ?_ ?_ ?_
 ·rintro i f hi cs w hB hP ⟨scs, rfl, hs⟩
  obtain ⟨s0, s1, s2, s3, s4, s5, s6, s7, s8, s9, s10, s11, s12, s13, rfl⟩ := rSt_form hs
  refine (check_header A1 A2 A3 A4 A5 A6 A7 p c1 c2 c3 c4 c5 c6 c7 B i f s0 s1 s2 s3 s4 s5 s6 s7 s8 s9 s10 s11 s12 s13 w hB hP (hh i f hi) hi).mono ?_
  rintro e w' ⟨rfl, hb⟩
  exact ⟨ret_int (by simp [checkI, hi]), hb⟩
 ·rintro i j f g hi hj cs w hB hP ⟨scs, rfl, hs⟩
  obtain ⟨s0, s1, s2, s3, s4, s5, s6, s7, s8, s9, s10, s11, s12, s13, rfl⟩ := rSt_form hs
  refine (check_field A1 A2 A3 A4 A5 A6 A7 p c1 c2 c3 c4 c5 c6 c7 B i j f g s0 s1 s2 s3 s4 s5 s6 s7 s8 s9 s10 s11 s12 s13 w hB hP hi hj).mono ?_
  rintro e w' ⟨rfl, hb⟩
  exact ⟨ret_int (by simp [checkI, hi, hj]), hb⟩
 ·rintro i f hi cs w hB hP ⟨scs, rfl, hs⟩
  obtain ⟨s0, s1, s2, s3, s4, s5, s6, s7, s8, s9, s10, s11, s12, s13, rfl⟩ := rSt_form hs
  refine (check_meta A1 A2 A3 A4 A5 A6 A7 p c1 c2 c3 c4 c5 c6 c7 B i f s0 s1 s2 s3 s4 s5 s6 s7 s8 s9 s10 s11 s12 s13 w hB hP hi).mono ?_
  rintro e w' ⟨rfl, hb⟩
  exact ⟨ret_int (by simp [checkI, hi]), hb⟩
 ·rintro i f hi cs w hB hP ⟨scs, rfl, hs⟩
  obtain ⟨s0, s1, s2, s3, s4, s5, s6, s7, s8, s9, s10, s11, s12, s13, rfl⟩ := rSt_form hs
  refine (check_state A1 A2 A3 A4 A5 A6 A7 p c1 c2 c3 c4 c5 c6 c7 B i f s0 s1 s2 s3 s4 s5 s6 s7 s8 s9 s10 s11 s12 s13 w hB hP hi).mono ?_
  rintro e w' ⟨rfl, hb⟩
  exact ⟨ret_int (by simp [checkI, hi]), hb⟩
 ·rintro i j f g hi hj cs w hB hP ⟨scs, rfl, hs⟩
  obtain ⟨s0, s1, s2, s3, s4, s5, s6, s7, s8, s9, s10, s11, s12, s13, rfl⟩ := rSt_form hs
  refine (check_take A1 A2 A3 A4 A5 A6 A7 p c1 c2 c3 c4 c5 c6 c7 B i f j g s0 s1 s2 s3 s4 s5 s6 s7 s8 s9 s10 s11 s12 s13 w hB hP hi hj).mono ?_
  rintro e w' ⟨rfl, hb⟩
  exact ⟨ret_int (by simp [checkI, hi, hj]), hb⟩
 ·rintro i f hi cs w hB hP ⟨scs, rfl, hs⟩
  obtain ⟨s0, s1, s2, s3, s4, s5, s6, s7, s8, s9, s10, s11, s12, s13, rfl⟩ := rSt_form hs
  refine (check_next A1 A2 A3 A4 A5 A6 A7 p c1 c2 c3 c4 c5 c6 c7 B i f 0 s0 s1 s2 s3 s4 s5 s6 s7 s8 s9 s10 s11 s12 s13 w hB hP hi).mono ?_
  rintro e w' ⟨rfl, hb⟩
  exact ⟨ret_int (by simp [checkI, hi]), hb⟩
 ·rintro i j f g hi hj cs w hB hP ⟨scs, rfl, hs⟩
  obtain ⟨s0, s1, s2, s3, s4, s5, s6, s7, s8, s9, s10, s11, s12, s13, rfl⟩ := rSt_form hs
  refine (check_case A1 A2 A3 A4 A5 A6 A7 p c1 c2 c3 c4 c5 c6 c7 B i f j g s0 s1 s2 s3 s4 s5 s6 s7 s8 s9 s10 s11 s12 s13 w hB hP hi hj).mono ?_
  rintro e w' ⟨rfl, hb⟩
  exact ⟨ret_int (by simp [checkI, hi, hj]), hb⟩
 ·rintro i f hi cs w hB hP ⟨scs, rfl, hs⟩
  obtain ⟨s0, s1, s2, s3, s4, s5, s6, s7, s8, s9, s10, s11, s12, s13, rfl⟩ := rSt_form hs
  refine (check_action A1 A2 A3 A4 A5 A6 A7 p c1 c2 c3 c4 c5 c6 c7 B i f s0 s1 s2 s3 s4 s5 s6 s7 s8 s9 s10 s11 s12 s13 w hB hP hi).mono ?_
  rintro e w' ⟨rfl, hb⟩
  exact ⟨ret_int (by simp [checkI, hi]), hb⟩
 ·rintro i j f g hi hj cs w hB hP ⟨scs, rfl, hs⟩
  obtain ⟨s0, s1, s2, s3, s4, s5, s6, s7, s8, s9, s10, s11, s12, s13, rfl⟩ := rSt_form hs
  refine (check_param A1 A2 A3 A4 A5 A6 A7 p c1 c2 c3 c4 c5 c6 c7 B i j f g s0 s1 s2 s3 s4 s5 s6 s7 s8 s9 s10 s11 s12 s13 w hB hP hi hj).mono ?_
  rintro e w' ⟨rfl, hb⟩
  exact ⟨ret_int (by simp [checkI, hi, hj]), hb⟩
 ·rintro a st cs w hB hP ⟨scs, rfl, hs⟩
  obtain ⟨s0, s1, s2, s3, s4, s5, s6, s7, s8, s9, s10, s11, s12, s13, rfl⟩ := rSt_form hs
  refine (check_stmt A1 A2 A3 A4 A5 A6 A7 p c1 c2 c3 c4 c5 c6 c7 B a st s0 s1 s2 s3 s4 s5 s6 s7 s8 s9 s10 s11 s12 s13 w hB hP hs).mono ?_
  rintro e w' ⟨rfl, hb⟩
  exact ⟨ret_int (by simp [checkI]), hb⟩
 ·rintro i f hi cs w hB hP ⟨scs, rfl, hs⟩
  obtain ⟨s0, s1, s2, s3, s4, s5, s6, s7, s8, s9, s10, s11, s12, s13, rfl⟩ := rSt_form hs
  refine (check_table A1 A2 A3 A4 A5 A6 A7 p c1 c2 c3 c4 c5 c6 c7 B i f s0 s1 s2 s3 s4 s5 s6 s7 s8 s9 s10 s11 s12 s13 w hB hP hi).mono ?_
  rintro e w' ⟨rfl, hb⟩
  exact ⟨ret_int (by simp [checkI, hi]), hb⟩
 ·rintro i j f g hi hj cs w hB hP ⟨scs, rfl, hs⟩
  obtain ⟨s0, s1, s2, s3, s4, s5, s6, s7, s8, s9, s10, s11, s12, s13, rfl⟩ := rSt_form hs
  refine (check_key A1 A2 A3 A4 A5 A6 A7 p c1 c2 c3 c4 c5 c6 c7 B i j f g s0 s1 s2 s3 s4 s5 s6 s7 s8 s9 s10 s11 s12 s13 w hB hP hi hj).mono ?_
  rintro e w' ⟨rfl, hb⟩
  exact ⟨ret_int (by simp [checkI, hi, hj]), hb⟩
 ·rintro i j f g hi hj cs w hB hP ⟨scs, rfl, hs⟩
  obtain ⟨s0, s1, s2, s3, s4, s5, s6, s7, s8, s9, s10, s11, s12, s13, rfl⟩ := rSt_form hs
  refine (check_listed A1 A2 A3 A4 A5 A6 A7 p c1 c2 c3 c4 c5 c6 c7 B i j f g s0 s1 s2 s3 s4 s5 s6 s7 s8 s9 s10 s11 s12 s13 w hB hP hi hj).mono ?_
  rintro e w' ⟨rfl, hb⟩
  exact ⟨ret_int (by simp [checkI, hi, hj]), hb⟩
 ·rintro i f hi cs w hB hP ⟨scs, rfl, hs⟩
  obtain ⟨s0, s1, s2, s3, s4, s5, s6, s7, s8, s9, s10, s11, s12, s13, rfl⟩ := rSt_form hs
  refine (check_default A1 A2 A3 A4 A5 A6 A7 p c1 c2 c3 c4 c5 c6 c7 B i f s0 s1 s2 s3 s4 s5 s6 s7 s8 s9 s10 s11 s12 s13 w hB hP hi).mono ?_
  rintro e w' ⟨rfl, hb⟩
  exact ⟨ret_int (by simp [checkI, hi]), hb⟩
 ·rintro i g hi cs w hB hP ⟨scs, rfl, hs⟩
  obtain ⟨s0, s1, s2, s3, s4, s5, s6, s7, s8, s9, s10, s11, s12, s13, rfl⟩ := rSt_form hs
  refine (check_emit A1 A2 A3 A4 A5 A6 A7 p c1 c2 c3 c4 c5 c6 c7 B i g s0 s1 s2 s3 s4 s5 s6 s7 s8 s9 s10 s11 s12 s13 w hB hP hi).mono ?_
  rintro e w' ⟨rfl, hb⟩
  exact ⟨ret_int (by simp [checkI, hi]), hb⟩
end Go.Proofs.YtcgmkjpgaigmfaaGreat

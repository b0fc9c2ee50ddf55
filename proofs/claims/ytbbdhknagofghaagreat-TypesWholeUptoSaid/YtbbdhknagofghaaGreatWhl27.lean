import Derived.Test.YtbbdhknagofghaaGreatWhl25
import Derived.Test.YtbbdhknagofghaaGreatWhl11
set_option linter.all false
/-! Plain: the first that is wrong of a list; what is wrong with an item. -/
namespace Go.Proofs.YtbbdhknagofghaaGreat
def firstE {α : Type} (f : α → Rs Unit) : List α → Rs Unit
 | [] => .ok ()
 | a :: l => match f a with
  | .error n => .error n
  | .ok _ => firstE f l
theorem firstE_app {α : Type} (f : α → Rs Unit) (b : List α) : ∀ a : List α, firstE f (a ++ b) = match firstE f a with
  | .error n => .error n
  | .ok _ => firstE f b
 | [] => rfl
 | x :: a => by
  simp only [List.cons_append, firstE]
  cases f x with
  | error n => rfl
  | ok u => exact firstE_app f b a
theorem firstE_stop {α : Type} {f : α → Rs Unit} {l : List α} {k : Nat} {n : Int} (hk : k < l.length) (h : firstE f (l.take k) = .ok ()) (hf : f l[k] = .error n) : firstE f l = .error n := by
 have e : l = l.take k ++ l[k] :: l.drop (k + 1) := by rw [List.getElem_cons_drop, List.take_append_drop]
 rw [e, firstE_app, h]
 simp only [firstE, hf]
theorem firstE_next {α : Type} {f : α → Rs Unit} {l : List α} {k : Nat} (hk : k < l.length) (h : firstE f (l.take k) = .ok ()) (hf : f l[k] = .ok ()) : firstE f (l.take (k + 1)) = .ok () := by
 rw [List.take_succ_eq_append_getElem hk, firstE_app, h]
 simp only [firstE, hf]
theorem firstE_ok {α : Type} {f : α → Rs Unit} : ∀ {l : List α}, firstE f l = .ok () → ∀ a ∈ l, f a = .ok ()
 | x :: l, h, a, ha => by
  simp only [firstE] at h
  cases hx : f x with
  | error n => rw [hx] at h; cases h
  | ok u =>
   rw [hx] at h
   rcases List.mem_cons.1 ha with rfl | h'
   ·exact hx
   ·exact firstE_ok h a h'
def bitsU (t : Rs Ty) : Rs Unit := match t with
 | .error n => .error n
 | .ok t => if t.truth then .error 9 else if t.free then .error 10 else .ok ()
/-- A key is bits. -/
def keyR (p : Pg) (e : Ex) : Rs Unit := bitsU (ofR p (-1) e)
/-- A set of a case goes to its key's width. -/
def setR (p : Pg) (x : Se × Ex) : Rs Unit := if x.1.kind = 1 then .ok () else
 match ofR p (-1) x.2 with
 | .error n => .error n
 | .ok t => match litR x.1.v t.w with
  | .error n => .error n
  | .ok _ => if x.1.kind = 3 then litR x.1.m t.w else .ok ()
/-- Of two keys, not both are prefixes. -/
def twiceR (k : Int) (x : Ky) : Rs Unit := if x.kind = 2 ∧ k = 2 then .error 8 else .ok ()
def tabKeyR (p : Pg) (l : List Ky) (j : Nat) (k : Ky) : Rs Unit := match keyR p k.e with
 | .error n => .error n
 | .ok _ => firstE (twiceR k.kind) (l.take j)
/-- A default's number goes to its parameter's width. -/
def argR (x : Fd × Lt) : Rs Unit := litR x.2 x.1.2
end Go.Proofs.YtbbdhknagofghaaGreat
/-! Layer 7: parsed: what is wrong with an item of the parser. -/
namespace Go.Proofs.YtbbdhknagofghaaGreat
open Go.RowKit
set_option maxRecDepth 100000 in
set_option maxHeartbeats 1000000 in
theorem to_any (A1 A2 A3 A4 A5 A6 A7 : Option Addr) (p : Pg) (c1 c2 c3 c4 c5 c6 c7 : Nat) (B a : Nat) (s : ByteArray) (w : World) (hB : B ≤ w.heap.size) (hP : PgS w B A1 A2 A3 A4 A5 A6 A7 p) (ha : a < w.heap.size) (hx : ∀ i, w.cell? ⟨a, i, none⟩ = (#[.slice A1 p.headers.length c1, .slice A2 p.metas.length c2, .slice A3 p.states.length c3, .slice A4 p.actions.length c4, .slice A5 p.tables.length c5, .slice A6 p.control.length c6, .slice A7 p.emit.length c7] : Array Value)[i]?) :
  Calls Tryz.prog 157 #[.string s, .pointer (some ⟨a, 0, none⟩)] w fun r w' => r = .returned (.int .i64 (toI p s)) ∧ Below w.heap.size w w' := by
 obtain ⟨z0, z1, z2, z3, z4, z5, z6⟩ := row7 (w := w) (a := a) fun i => hx i
 have hS := hide (state_any w A1 A2 A3 A4 A5 A6 A7 p c1 c2 c3 c4 c5 c6 c7 s hB hP)
 have hv := hide (show toI p s = isI (!stateB p s) 7 from rfl)
 generalize stateI p s = x at hS
 generalize stateB p s = y at hS hv
 clear hx
 go_enter Tryz.func157, Tryz.ntmps157
 go_wp2_with (first | (go_at_call 86; refine hS.out.mono ?_; rintro e w1 ⟨rfl, hw1⟩) | (go_at_call 80; refine (is_any _ _ _).mono ?_; rintro e w' ⟨rfl, rfl⟩))
 go_ret
 exact ⟨ret_int hv.out.symm, hw1⟩
theorem enters_to : ∀ args w, (callFunc 157 args).run Tryz.prog w = .ok (.enter 157 args) w := enters_of Tryz.func157 (by kernel_rfl) rfl
end Go.Proofs.YtbbdhknagofghaaGreat
/-! Printed by gen_parsed.py. Layer 7: parsed: what is wrong with an item of the parser. -/
namespace Go.Proofs.YtbbdhknagofghaaGreat
open Go.RowKit
set_option maxRecDepth 100000 in
set_option maxHeartbeats 4000000 in
theorem parsed_take (A1 A2 A3 A4 A5 A6 A7 : Option Addr) (p : Pg) (c1 c2 c3 c4 c5 c6 c7 : Nat) (B i : Nat) (s : Sa) (j : Nat) (nm : ByteArray) (s0 s1 s2 s3 s4 s5 s6 s7 s8 s9 s10 s11 s12 s13 : Value) (w : World) (hB : B ≤ w.heap.size) (hP : PgS w B A1 A2 A3 A4 A5 A6 A7 p) (hi : p.states[i]? = some s) (hj : s.takes[j]? = some nm) :
  Calls Tryz.prog 87 #[.agg #[.slice A1 p.headers.length c1, .slice A2 p.metas.length c2, .slice A3 p.states.length c3, .slice A4 p.actions.length c4, .slice A5 p.tables.length c5, .slice A6 p.control.length c6, .slice A7 p.emit.length c7], .agg #[.int .u8 5, .int .i64 (i : Int), .int .i64 (j : Int), s0, s1, s2, s3, s4, s5, s6, s7, s8, s9, s10, s11, s12, s13]] w fun r w' => r = .returned (.int .i64 (isI (decide (headerI p nm < 0)) 7)) ∧ Below w.heap.size w w' := by
 have hs := List.getElem?_eq_some_iff.1 hi
 obtain ⟨hlt, hst⟩ := hs
 obtain ⟨wa, hwa, hsa, hba, hca, -⟩ := box1 w #[.slice A1 p.headers.length c1, .slice A2 p.metas.length c2, .slice A3 p.states.length c3, .slice A4 p.actions.length c4, .slice A5 p.tables.length c5, .slice A6 p.control.length c6, .slice A7 p.emit.length c7] 30
 obtain ⟨wb, hwb, hsb, hbb, hcb, -⟩ := box1 wa #[.int .u8 5, .int .i64 (i : Int), .int .i64 (j : Int), s0, s1, s2, s3, s4, s5, s6, s7, s8, s9, s10, s11, s12, s13] 49
 have hw := hba.trans (hbb.mono (by omega))
 have q : ∀ i, wb.cell? ⟨w.heap.size, i, none⟩ = wa.cell? ⟨w.heap.size, i, none⟩ := fun i => hbb.cell (p := ⟨w.heap.size, i, none⟩) (by show w.heap.size < _; omega)
 have hqz := fun i => (q i).trans (hca i)
 obtain ⟨z0, z1, z2, z3, z4, z5, z6⟩ := row7 (w := wb) (a := w.heap.size) fun i => hqz i
 simp only [hsa] at hcb
 have y0 : wb.cell? ⟨w.heap.size + 1, 0, none⟩ = some (.int .u8 5) := hcb 0
 have y1 : wb.cell? ⟨w.heap.size + 1, 1, none⟩ = some (.int .i64 (i : Int)) := hcb 1
 have y2 : wb.cell? ⟨w.heap.size + 1, 2, none⟩ = some (.int .i64 (j : Int)) := hcb 2
 have hl1 : w.heap.size < wb.heap.size := by omega
 have hl2 : w.heap.size + 1 < wb.heap.size := by omega
 have hz2 : w.heap.size + 2 = wb.heap.size := by omega
 have hBb : B ≤ wb.heap.size := by omega
 have hP2 := hP.below (hw.mono hB)
 have lst := hP2.states.len
 obtain ⟨b, o, ecs, hA3, hb, hel, hcell, B1, d1, B2, d2, B3, d3, rfl, hn, hd, hT, hK, hC⟩ := hP2.states.2 i s hi
 subst hA3
 have m1 := hT.len
 have m2 := hK.len
 have m3 := hC.len
 obtain ⟨x0, x1, x2, x3, x4⟩ := srow5 hcell
 obtain ⟨wc, hwc, hsc, hbc, hcc, -⟩ := box1 wb #[.string s.name, .slice B1 s.takes.length d1, .string s.dest, .slice B2 s.keys.length d2, .slice B3 s.cases_.length d3] 61
 have hwC := hw.trans (hbc.mono (by omega))
 have r1 : ∀ i, wc.cell? ⟨w.heap.size, i, none⟩ = wb.cell? ⟨w.heap.size, i, none⟩ := fun i => hbc.cell (p := ⟨w.heap.size, i, none⟩) (by show w.heap.size < _; omega)
 have r2 : ∀ i, wc.cell? ⟨w.heap.size + 1, i, none⟩ = wb.cell? ⟨w.heap.size + 1, i, none⟩ := fun i => hbc.cell (p := ⟨w.heap.size + 1, i, none⟩) (by show w.heap.size + 1 < _; omega)
 have hcz : ∀ i, wc.cell? ⟨w.heap.size, i, none⟩ = (#[.slice A1 p.headers.length c1, .slice A2 p.metas.length c2, .slice (some ⟨b, o, none⟩) p.states.length c3, .slice A4 p.actions.length c4, .slice A5 p.tables.length c5, .slice A6 p.control.length c6, .slice A7 p.emit.length c7] : Array Value)[i]? := fun i => (r1 i).trans (hqz i)
 obtain ⟨f0, f1, f2, f3, f4, f5, f6⟩ := row7 (w := wc) (a := w.heap.size) fun i => hcz i
 have g0 : wc.cell? ⟨w.heap.size + 1, 0, none⟩ = some (.int .u8 5) := (r2 0).trans y0
 have g1 : wc.cell? ⟨w.heap.size + 1, 1, none⟩ = some (.int .i64 (i : Int)) := (r2 1).trans y1
 have g2 : wc.cell? ⟨w.heap.size + 1, 2, none⟩ = some (.int .i64 (j : Int)) := (r2 2).trans y2
 simp only [hsb, hsa] at hcc
 obtain ⟨v0, v1, v2, v3, v4⟩ := row5 hcc
 have hk1 : w.heap.size < wc.heap.size := by omega
 have hk2 : w.heap.size + 1 < wc.heap.size := by omega
 have hk3 : w.heap.size + 1 + 1 < wc.heap.size := by omega
 have hBc : B ≤ wc.heap.size := by omega
 have hbw : b < wc.heap.size := by omega
 have hiz : (i : Int) < (p.states.length : Int) := by omega
 have hwC' := hide hwC
 have hP3 := hide (hP2.below (hbc.mono hBb))
 have hT3 := hide (hT.below sta_str (hbc.mono hBb))
 have hK3 := hide (hK.below sta_ex (hbc.mono hBb))
 have hC3 := hide (hC.below sta_ca (hbc.mono hBb))
 have hcz' := hide hcz
 clear hcell hT hK hC hP2 hP hw hqz q r1 r2 hbc hbb hba hca hcb hcc hcz hwC hst
 replace hz2 := hide hz2
 replace hsc := hide hsc
 have hjl := (List.getElem?_eq_some_iff.1 hj).1
 have hjz : (j : Int) < (s.takes.length : Int) := by omega
 obtain ⟨b', o', u, hA', hb', hcell', hr, hz⟩ := hT3.out.at1 hjl
 subst hA'
 cases hr
 rw [(List.getElem?_eq_some_iff.1 hj).2] at hcell' hz
 have hbw' : b' < wc.heap.size := by omega
 have hb0 : Below wc.heap.size wc wc := Below.refl _ _
 have hg := gcell' hb0 (Nat.le_refl _)
 have hI : ∀ b n d os, Hid (Calls Tryz.prog 80 #[.bool b, .int .i64 n] (Go.Sort.grow (redrawn wc d) os) _) := fun b n d os => hide (is_b b n _)
 have hH : ∀ d os, Hid (Calls Tryz.prog 83 #[.agg #[.slice A1 p.headers.length c1, .slice A2 p.metas.length c2, .slice (some ⟨b, o, none⟩) p.states.length c3, .slice A4 p.actions.length c4, .slice A5 p.tables.length c5, .slice A6 p.control.length c6, .slice A7 p.emit.length c7], .string nm] (Go.Sort.grow (redrawn wc d) os) _) := fun d os => hide (header_any _ A1 A2 (some ⟨b, o, none⟩) A4 A5 A6 A7 p c1 c2 c3 c4 c5 c6 c7 nm (hP3.out.grown hBc d os).1 (hP3.out.grown hBc d os).2)
 generalize headerI p nm = zz at hH ⊢
 clear hb0 hi
 go_enter Tryz.func87, Tryz.ntmps87
 go_wp2_with fail
 refine wp_region_quiet_below (by kernel_rfl) (by kernel_rfl) ?_
 repeat (any_goals (first | go_big_quiet_step (first | (go_at_call 80; with_reducible exact Calls.regrown_of (hI _ _ _ _).out) | (go_at_call 83; with_reducible exact Calls.regrown_of (hH _ _).out)) | quiet_step (first | (go_at_call 80; with_reducible exact Calls.regrown_of (hI _ _ _ _).out) | (go_at_call 83; with_reducible exact Calls.regrown_of (hH _ _).out))))
 refine wpQuiet_nil ?_
 intro w1 hw1
 replace hw1 := below_of_regrown hw1
 go_wp2
 go_ret
 exact ⟨rfl, hwC'.out.trans (hw1.mono (by omega))⟩
set_option maxRecDepth 100000 in
set_option maxHeartbeats 4000000 in
theorem parsed_case (A1 A2 A3 A4 A5 A6 A7 : Option Addr) (p : Pg) (c1 c2 c3 c4 c5 c6 c7 : Nat) (B i : Nat) (s : Sa) (j : Nat) (c : Ca) (s0 s1 s2 s3 s4 s5 s6 s7 s8 s9 s10 s11 s12 s13 : Value) (w : World) (hB : B ≤ w.heap.size) (hP : PgS w B A1 A2 A3 A4 A5 A6 A7 p) (hi : p.states[i]? = some s) (hj : s.cases_[j]? = some c) :
  Calls Tryz.prog 87 #[.agg #[.slice A1 p.headers.length c1, .slice A2 p.metas.length c2, .slice A3 p.states.length c3, .slice A4 p.actions.length c4, .slice A5 p.tables.length c5, .slice A6 p.control.length c6, .slice A7 p.emit.length c7], .agg #[.int .u8 7, .int .i64 (i : Int), .int .i64 (j : Int), s0, s1, s2, s3, s4, s5, s6, s7, s8, s9, s10, s11, s12, s13]] w fun r w' => r = .returned (.int .i64 (toI p c.dest)) ∧ Below w.heap.size w w' := by
 have hs := List.getElem?_eq_some_iff.1 hi
 obtain ⟨hlt, hst⟩ := hs
 obtain ⟨wa, hwa, hsa, hba, hca, -⟩ := box1 w #[.slice A1 p.headers.length c1, .slice A2 p.metas.length c2, .slice A3 p.states.length c3, .slice A4 p.actions.length c4, .slice A5 p.tables.length c5, .slice A6 p.control.length c6, .slice A7 p.emit.length c7] 30
 obtain ⟨wb, hwb, hsb, hbb, hcb, -⟩ := box1 wa #[.int .u8 7, .int .i64 (i : Int), .int .i64 (j : Int), s0, s1, s2, s3, s4, s5, s6, s7, s8, s9, s10, s11, s12, s13] 49
 have hw := hba.trans (hbb.mono (by omega))
 have q : ∀ i, wb.cell? ⟨w.heap.size, i, none⟩ = wa.cell? ⟨w.heap.size, i, none⟩ := fun i => hbb.cell (p := ⟨w.heap.size, i, none⟩) (by show w.heap.size < _; omega)
 have hqz := fun i => (q i).trans (hca i)
 obtain ⟨z0, z1, z2, z3, z4, z5, z6⟩ := row7 (w := wb) (a := w.heap.size) fun i => hqz i
 simp only [hsa] at hcb
 have y0 : wb.cell? ⟨w.heap.size + 1, 0, none⟩ = some (.int .u8 7) := hcb 0
 have y1 : wb.cell? ⟨w.heap.size + 1, 1, none⟩ = some (.int .i64 (i : Int)) := hcb 1
 have y2 : wb.cell? ⟨w.heap.size + 1, 2, none⟩ = some (.int .i64 (j : Int)) := hcb 2
 have hl1 : w.heap.size < wb.heap.size := by omega
 have hl2 : w.heap.size + 1 < wb.heap.size := by omega
 have hz2 : w.heap.size + 2 = wb.heap.size := by omega
 have hBb : B ≤ wb.heap.size := by omega
 have hP2 := hP.below (hw.mono hB)
 have lst := hP2.states.len
 obtain ⟨b, o, ecs, hA3, hb, hel, hcell, B1, d1, B2, d2, B3, d3, rfl, hn, hd, hT, hK, hC⟩ := hP2.states.2 i s hi
 subst hA3
 have m1 := hT.len
 have m2 := hK.len
 have m3 := hC.len
 obtain ⟨x0, x1, x2, x3, x4⟩ := srow5 hcell
 obtain ⟨wc, hwc, hsc, hbc, hcc, -⟩ := box1 wb #[.string s.name, .slice B1 s.takes.length d1, .string s.dest, .slice B2 s.keys.length d2, .slice B3 s.cases_.length d3] 61
 have hwC := hw.trans (hbc.mono (by omega))
 have r1 : ∀ i, wc.cell? ⟨w.heap.size, i, none⟩ = wb.cell? ⟨w.heap.size, i, none⟩ := fun i => hbc.cell (p := ⟨w.heap.size, i, none⟩) (by show w.heap.size < _; omega)
 have r2 : ∀ i, wc.cell? ⟨w.heap.size + 1, i, none⟩ = wb.cell? ⟨w.heap.size + 1, i, none⟩ := fun i => hbc.cell (p := ⟨w.heap.size + 1, i, none⟩) (by show w.heap.size + 1 < _; omega)
 have hcz : ∀ i, wc.cell? ⟨w.heap.size, i, none⟩ = (#[.slice A1 p.headers.length c1, .slice A2 p.metas.length c2, .slice (some ⟨b, o, none⟩) p.states.length c3, .slice A4 p.actions.length c4, .slice A5 p.tables.length c5, .slice A6 p.control.length c6, .slice A7 p.emit.length c7] : Array Value)[i]? := fun i => (r1 i).trans (hqz i)
 obtain ⟨f0, f1, f2, f3, f4, f5, f6⟩ := row7 (w := wc) (a := w.heap.size) fun i => hcz i
 have g0 : wc.cell? ⟨w.heap.size + 1, 0, none⟩ = some (.int .u8 7) := (r2 0).trans y0
 have g1 : wc.cell? ⟨w.heap.size + 1, 1, none⟩ = some (.int .i64 (i : Int)) := (r2 1).trans y1
 have g2 : wc.cell? ⟨w.heap.size + 1, 2, none⟩ = some (.int .i64 (j : Int)) := (r2 2).trans y2
 simp only [hsb, hsa] at hcc
 obtain ⟨v0, v1, v2, v3, v4⟩ := row5 hcc
 have hk1 : w.heap.size < wc.heap.size := by omega
 have hk2 : w.heap.size + 1 < wc.heap.size := by omega
 have hk3 : w.heap.size + 1 + 1 < wc.heap.size := by omega
 have hBc : B ≤ wc.heap.size := by omega
 have hbw : b < wc.heap.size := by omega
 have hiz : (i : Int) < (p.states.length : Int) := by omega
 have hwC' := hide hwC
 have hP3 := hide (hP2.below (hbc.mono hBb))
 have hT3 := hide (hT.below sta_str (hbc.mono hBb))
 have hK3 := hide (hK.below sta_ex (hbc.mono hBb))
 have hC3 := hide (hC.below sta_ca (hbc.mono hBb))
 have hcz' := hide hcz
 clear hcell hT hK hC hP2 hP hw hqz q r1 r2 hbc hbb hba hca hcb hcc hcz hwC hst
 replace hz2 := hide hz2
 replace hsc := hide hsc
 have hjl := (List.getElem?_eq_some_iff.1 hj).1
 have hjz : (j : Int) < (s.cases_.length : Int) := by omega
 obtain ⟨b', o', ecs', hA', hb', hel', hcell', B4, d4, rfl, hz, hS4⟩ := hC3.out.2 j c hj
 subst hA'
 have hbw' : b' < wc.heap.size := by omega
 obtain ⟨n0, n1, n2⟩ := srow3 hcell'
 have hX := hide (to_any A1 A2 (some ⟨b, o, none⟩) A4 A5 A6 A7 p c1 c2 c3 c4 c5 c6 c7 B w.heap.size c.dest wc hBc hP3.out hk1 hcz'.out)
 have eg := enters_to
 clear hi hcell' hS4
 go_enter Tryz.func87, Tryz.ntmps87
 go_wp2_with (go_at_fn 157; refine hX.out.mono ?_; rintro e w1 ⟨rfl, hw1⟩)
 go_ret
 exact ⟨rfl, hwC'.out.trans (hw1.mono (by omega))⟩
set_option maxRecDepth 100000 in
set_option maxHeartbeats 4000000 in
theorem parsed_next (A1 A2 A3 A4 A5 A6 A7 : Option Addr) (p : Pg) (c1 c2 c3 c4 c5 c6 c7 : Nat) (B i : Nat) (s : Sa) (j : Int) (s0 s1 s2 s3 s4 s5 s6 s7 s8 s9 s10 s11 s12 s13 : Value) (w : World) (hB : B ≤ w.heap.size) (hP : PgS w B A1 A2 A3 A4 A5 A6 A7 p) (hi : p.states[i]? = some s) :
  Calls Tryz.prog 87 #[.agg #[.slice A1 p.headers.length c1, .slice A2 p.metas.length c2, .slice A3 p.states.length c3, .slice A4 p.actions.length c4, .slice A5 p.tables.length c5, .slice A6 p.control.length c6, .slice A7 p.emit.length c7], .agg #[.int .u8 6, .int .i64 (i : Int), .int .i64 j, s0, s1, s2, s3, s4, s5, s6, s7, s8, s9, s10, s11, s12, s13]] w fun r w' => r = .returned (.int .i64 (nextI p s)) ∧ Below w.heap.size w w' := by
 have hs := List.getElem?_eq_some_iff.1 hi
 obtain ⟨hlt, hst⟩ := hs
 obtain ⟨wa, hwa, hsa, hba, hca, -⟩ := box1 w #[.slice A1 p.headers.length c1, .slice A2 p.metas.length c2, .slice A3 p.states.length c3, .slice A4 p.actions.length c4, .slice A5 p.tables.length c5, .slice A6 p.control.length c6, .slice A7 p.emit.length c7] 30
 obtain ⟨wb, hwb, hsb, hbb, hcb, -⟩ := box1 wa #[.int .u8 6, .int .i64 (i : Int), .int .i64 j, s0, s1, s2, s3, s4, s5, s6, s7, s8, s9, s10, s11, s12, s13] 49
 have hw := hba.trans (hbb.mono (by omega))
 have q : ∀ i, wb.cell? ⟨w.heap.size, i, none⟩ = wa.cell? ⟨w.heap.size, i, none⟩ := fun i => hbb.cell (p := ⟨w.heap.size, i, none⟩) (by show w.heap.size < _; omega)
 have hqz := fun i => (q i).trans (hca i)
 obtain ⟨z0, z1, z2, z3, z4, z5, z6⟩ := row7 (w := wb) (a := w.heap.size) fun i => hqz i
 simp only [hsa] at hcb
 have y0 : wb.cell? ⟨w.heap.size + 1, 0, none⟩ = some (.int .u8 6) := hcb 0
 have y1 : wb.cell? ⟨w.heap.size + 1, 1, none⟩ = some (.int .i64 (i : Int)) := hcb 1
 have y2 : wb.cell? ⟨w.heap.size + 1, 2, none⟩ = some (.int .i64 j) := hcb 2
 have hl1 : w.heap.size < wb.heap.size := by omega
 have hl2 : w.heap.size + 1 < wb.heap.size := by omega
 have hz2 : w.heap.size + 2 = wb.heap.size := by omega
 have hBb : B ≤ wb.heap.size := by omega
 have hP2 := hP.below (hw.mono hB)
 have lst := hP2.states.len
 obtain ⟨b, o, ecs, hA3, hb, hel, hcell, B1, d1, B2, d2, B3, d3, rfl, hn, hd, hT, hK, hC⟩ := hP2.states.2 i s hi
 subst hA3
 have m1 := hT.len
 have m2 := hK.len
 have m3 := hC.len
 obtain ⟨x0, x1, x2, x3, x4⟩ := srow5 hcell
 obtain ⟨wc, hwc, hsc, hbc, hcc, -⟩ := box1 wb #[.string s.name, .slice B1 s.takes.length d1, .string s.dest, .slice B2 s.keys.length d2, .slice B3 s.cases_.length d3] 61
 have hwC := hw.trans (hbc.mono (by omega))
 have r1 : ∀ i, wc.cell? ⟨w.heap.size, i, none⟩ = wb.cell? ⟨w.heap.size, i, none⟩ := fun i => hbc.cell (p := ⟨w.heap.size, i, none⟩) (by show w.heap.size < _; omega)
 have r2 : ∀ i, wc.cell? ⟨w.heap.size + 1, i, none⟩ = wb.cell? ⟨w.heap.size + 1, i, none⟩ := fun i => hbc.cell (p := ⟨w.heap.size + 1, i, none⟩) (by show w.heap.size + 1 < _; omega)
 have hcz : ∀ i, wc.cell? ⟨w.heap.size, i, none⟩ = (#[.slice A1 p.headers.length c1, .slice A2 p.metas.length c2, .slice (some ⟨b, o, none⟩) p.states.length c3, .slice A4 p.actions.length c4, .slice A5 p.tables.length c5, .slice A6 p.control.length c6, .slice A7 p.emit.length c7] : Array Value)[i]? := fun i => (r1 i).trans (hqz i)
 obtain ⟨f0, f1, f2, f3, f4, f5, f6⟩ := row7 (w := wc) (a := w.heap.size) fun i => hcz i
 have g0 : wc.cell? ⟨w.heap.size + 1, 0, none⟩ = some (.int .u8 6) := (r2 0).trans y0
 have g1 : wc.cell? ⟨w.heap.size + 1, 1, none⟩ = some (.int .i64 (i : Int)) := (r2 1).trans y1
 have g2 : wc.cell? ⟨w.heap.size + 1, 2, none⟩ = some (.int .i64 j) := (r2 2).trans y2
 simp only [hsb, hsa] at hcc
 obtain ⟨v0, v1, v2, v3, v4⟩ := row5 hcc
 have hk1 : w.heap.size < wc.heap.size := by omega
 have hk2 : w.heap.size + 1 < wc.heap.size := by omega
 have hk3 : w.heap.size + 1 + 1 < wc.heap.size := by omega
 have hBc : B ≤ wc.heap.size := by omega
 have hbw : b < wc.heap.size := by omega
 have hiz : (i : Int) < (p.states.length : Int) := by omega
 have hwC' := hide hwC
 have hP3 := hide (hP2.below (hbc.mono hBb))
 have hT3 := hide (hT.below sta_str (hbc.mono hBb))
 have hK3 := hide (hK.below sta_ex (hbc.mono hBb))
 have hC3 := hide (hC.below sta_ca (hbc.mono hBb))
 have hcz' := hide hcz
 clear hcell hT hK hC hP2 hP hw hqz q r1 r2 hbc hbb hba hca hcb hcc hcz hwC hst
 replace hz2 := hide hz2
 replace hsc := hide hsc
 have eg := enters_to
 clear hi
 by_cases hdd : s.dest = strE
 ·have q1 : (s.dest.toList == []) = true := by rw [emp_iff.1 hdd]; rfl
  have q2 : s.dest.toList.isEmpty = true := by rw [emp_iff.1 hdd]; rfl
  have hv := hide (show nextI p s = isI (!s.keys.all (thereE p (-1))) 7 from by unfold nextI; rw [if_pos hdd])
  clear hdd eg
  have hc0 := bcell' (show Below wc.heap.size wc wc from Below.refl _ _)
  clear hc0
  go_enter Tryz.func87, Tryz.ntmps87
  go_wp2
  go_loopw [52] (fun n wr => ∃ k : Nat, k ≤ s.keys.length ∧ n = .int .i64 k ∧ Hid ((s.keys.take k).all (thereE p (-1)) = true) ∧ Hid (Below wc.heap.size wc wr) ∧ wc.heap.size ≤ wr.heap.size) (fun n _ => s.keys.length - (intOf n).toNat)
  case atStart => exact ⟨0, Nat.zero_le _, rfl, hide (by simp), hide (Below.refl _ _), Nat.le_refl _⟩
  case round =>
   obtain ⟨k, hk, rfl, hall, hbr, hzr⟩ := hrel
   have hc := bcell' hbr.out
   by_cases hltk : k < s.keys.length
   ·obtain ⟨b', o', ecs, hA', hb', hel', hcell', hr⟩ := hK3.out.2 k _ (List.getElem?_eq_getElem hltk)
    subst hA'
    have hltz : (k : Int) < (s.keys.length : Int) := by omega
    have hcall := fun (wx : World) (h1 : wc.heap.size ≤ wx.heap.size) (h2 : Below wc.heap.size wc wx) => names_any A1 A2 (some ⟨b, o, none⟩) A4 A5 A6 A7 p c1 c2 c3 c4 c5 c6 c7 (-1) B s.keys[k] ecs wx (by omega) (hP3.out.below (h2.mono (by omega))) (sta_ex.keep hr fun q hq => (h2.mono (show B ≤ _ by omega)).cell hq)
    have ht := hide (all_take_succ (f := thereE p (-1)) hltk)
    have hfa : thereE p (-1) s.keys[k] = false → s.keys.all (thereE p (-1)) = false := fun h => by
     rw [List.all_eq_false]; exact ⟨_, List.getElem_mem hltk, by rw [h]; simp⟩
    generalize s.keys[k] = x at hr ht hfa hcall
    have hnm : namesI p (-1) x = isI (!thereE p (-1) x) 7 := rfl
    generalize namesI p (-1) x = nm at hcall hnm
    generalize thereE p (-1) x = tx at ht hfa hnm
    obtain ⟨op', lit', head', name', hi', lo', args'⟩ := x
    obtain ⟨A', cap', rfl, -, -, -, -, -, -, hs'⟩ := RE.inv hr
    have hl' := hs'.len
    obtain ⟨n0, n1, n2, n3, n4, n5, n6, n7, n8⟩ := srow9 hcell'
    obtain ⟨wx, hwx, hzx, hbx, hcx, -⟩ := box1 wr #[.int .u8 op', .int .i64 lit'.1, .int .u64 lit'.2.1, .int .u64 lit'.2.2, .string head', .string name', .int .i64 hi', .int .i64 lo', .slice A' args'.length cap'] 45
    obtain ⟨u0, u1, u2, u3, u4, u5, u6, u7, u8⟩ := row9 hcx
    have hbX := hbr.out.trans (hbx.mono hzr)
    have hcX := bcell' hbX
    have hX : Calls Tryz.prog 91 #[.agg #[.slice A1 p.headers.length c1, .slice A2 p.metas.length c2, .slice (some ⟨b, o, none⟩) p.states.length c3, .slice A4 p.actions.length c4, .slice A5 p.tables.length c5, .slice A6 p.control.length c6, .slice A7 p.emit.length c7], .int .i64 (-1), .agg #[.int .u8 op', .int .i64 lit'.1, .int .u64 lit'.2.1, .int .u64 lit'.2.2, .string head', .string name', .int .i64 hi', .int .i64 lo', .slice A' args'.length cap']] wx _ := hcall wx (by omega) hbX
    replace hbX := hide hbX
    have hb'' : b' < wc.heap.size := by omega
    clear hcell' hr hcx hbx hcall hs'
    cases tx with
    | true =>
     have hnz : nm = 0 := hnm
     subst hnz
     have hX' := hide hX
     clear hX hnm hfa
     go_wp2_with (go_at_call 91; refine hX'.out.mono ?_; rintro e w1 ⟨rfl, hw1⟩)
     go_roundw
     case rel => exact ⟨k + 1, by omega, by go_num, hide (by rw [ht.out, hall.out]; rfl), hide (hbX.out.trans (hw1.mono (by omega))), by have := hw1.size; omega⟩
     case measure => simp [intOf]; omega
    | false =>
     have hnz : nm = 7 := hnm
     subst hnz
     have hX' := hide hX
     have hfa' := hide (hfa rfl)
     clear hX hnm hfa
     go_wp2_with (go_at_call 91; refine hX'.out.mono ?_; rintro e w1 ⟨rfl, hw1⟩)
     go_ret
     exact ⟨ret_int (by rw [hv.out, hfa'.out]; rfl), hwC'.out.trans ((hbX.out.trans (hw1.mono (by omega))).mono (by omega))⟩
   ·have hfull := hide (show s.keys.all (thereE p (-1)) = true from by rw [← hall.out, List.take_of_length_le (by omega)])
    go_wp2
    go_ret
    exact ⟨ret_int (by rw [hv.out, hfull.out]; rfl), hwC'.out.trans (hbr.out.mono (by omega))⟩
 ·have q1 : (s.dest.toList == []) = false := by rw [beq_eq_false_iff_ne]; exact fun h => hdd (emp_iff.2 h)
  have q2 : s.dest.toList.isEmpty = false := by rw [List.isEmpty_eq_false_iff]; exact fun h => hdd (emp_iff.2 h)
  have hv := hide (show nextI p s = toI p s.dest from by unfold nextI; rw [if_neg hdd])
  have hX := hide (to_any A1 A2 (some ⟨b, o, none⟩) A4 A5 A6 A7 p c1 c2 c3 c4 c5 c6 c7 B w.heap.size s.dest wc hBc hP3.out hk1 hcz'.out)
  clear hdd
  go_enter Tryz.func87, Tryz.ntmps87
  go_wp2_with (go_at_fn 157; refine hX.out.mono ?_; rintro e w1 ⟨rfl, hw1⟩)
  go_ret
  exact ⟨ret_int hv.out.symm, hwC'.out.trans (hw1.mono (by omega))⟩
end Go.Proofs.YtbbdhknagofghaaGreat

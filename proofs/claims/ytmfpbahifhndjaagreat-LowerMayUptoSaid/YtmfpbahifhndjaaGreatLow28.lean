import Derived.Test.YtmfpbahifhndjaaGreatLow13
import Derived.Test.YtmfpbahifhndjaaGreatLow14
import Derived.Test.YtmfpbahifhndjaaGreatLow27
set_option linter.all false
/-! Layer 10: width, leaf. -/
namespace Go.Proofs.YtmfpbahifhndjaaGreat
open Go.RowKit
/-- An expression's own width; that asked, if it is free; 1 of a truth. -/
def widthV (t : Ty) (asked : Int) : Int := if t.truth then 1 else if t.free then asked else t.w
def widthE (p : Pg) (act : Int) (e : Ex) (asked : Int) : Int := widthV (ofE (askR p act e)).1 asked
set_option maxRecDepth 100000 in
set_option maxHeartbeats 8000000 in
theorem lwidth_any (A1 A2 A3 A4 A5 A6 A7 : Option Addr) (p : Pg) (c1 c2 c3 c4 c5 c6 c7 : Nat) {m act : Int} {B : Nat} (hm : wideP p = true) (e : Ex) (asked : Int) (cs : List Value) (w : World) (hB : B ≤ w.heap.size) (h0 : 0 < B) (hz : w.cell? ⟨0, 0, none⟩ = some (.int .i64 m)) (hP : PgS w B A1 A2 A3 A4 A5 A6 A7 p) (hr : rEx w B cs e) :
  Calls Tryz.prog 81 #[.agg #[.slice A1 p.headers.length c1, .slice A2 p.metas.length c2, .slice A3 p.states.length c3, .slice A4 p.actions.length c4, .slice A5 p.tables.length c5, .slice A6 p.control.length c6, .slice A7 p.emit.length c7, .int .i64 act], .agg cs.toArray, .int .i64 asked] w fun z w' => z = .returned (.int .i64 (widthE p act e asked)) ∧ Below w.heap.size w w' := by
 obtain ⟨op, lit, head, name, hi, lo, args⟩ := e
 have hr' := hr
 obtain ⟨A, cap, rfl, -⟩ := RE.inv hr'
 clear hr'
 show Calls _ _ #[.agg #[.slice A1 p.headers.length c1, .slice A2 p.metas.length c2, .slice A3 p.states.length c3, .slice A4 p.actions.length c4, .slice A5 p.tables.length c5, .slice A6 p.control.length c6, .slice A7 p.emit.length c7, .int .i64 act], .agg #[.int .u8 op, .int .i64 lit.1, .int .u64 lit.2.1, .int .u64 lit.2.2, .string head, .string name, .int .i64 hi, .int .i64 lo, .slice A args.length cap], .int .i64 asked] _ _
 obtain ⟨wv, hwv, hsv, hbv, hcv, -⟩ := box1 w #[.slice A1 p.headers.length c1, .slice A2 p.metas.length c2, .slice A3 p.states.length c3, .slice A4 p.actions.length c4, .slice A5 p.tables.length c5, .slice A6 p.control.length c6, .slice A7 p.emit.length c7, .int .i64 act] 111
 obtain ⟨we, hwe, hse, hbe, hce, -⟩ := box1 wv #[.int .u8 op, .int .i64 lit.1, .int .u64 lit.2.1, .int .u64 lit.2.2, .string head, .string name, .int .i64 hi, .int .i64 lo, .slice A args.length cap] 65
 have hEv : Below wv.heap.size wv we := hbe
 have hw : Below w.heap.size w we := hbv.trans (hEv.mono (by omega))
 have hl1 : w.heap.size < we.heap.size := by omega
 have hl2 : wv.heap.size < we.heap.size := by omega
 have cv := fun i => (hEv.cell (p := ⟨w.heap.size, i, none⟩) (by show w.heap.size < _; omega)).trans (hcv i)
 have v0 : we.cell? ⟨w.heap.size, 0, none⟩ = some (.slice A1 p.headers.length c1) := cv 0
 have v1 : we.cell? ⟨w.heap.size, 1, none⟩ = some (.slice A2 p.metas.length c2) := cv 1
 have v2 : we.cell? ⟨w.heap.size, 2, none⟩ = some (.slice A3 p.states.length c3) := cv 2
 have v3 : we.cell? ⟨w.heap.size, 3, none⟩ = some (.slice A4 p.actions.length c4) := cv 3
 have v4 : we.cell? ⟨w.heap.size, 4, none⟩ = some (.slice A5 p.tables.length c5) := cv 4
 have v5 : we.cell? ⟨w.heap.size, 5, none⟩ = some (.slice A6 p.control.length c6) := cv 5
 have v6 : we.cell? ⟨w.heap.size, 6, none⟩ = some (.slice A7 p.emit.length c7) := cv 6
 have v7 : we.cell? ⟨w.heap.size, 7, none⟩ = some (.int .i64 act) := cv 7
 obtain ⟨e0, e1, e2, e3, e4, e5, e6, e7, e8⟩ := row9 hce
 have hX : Calls Tryz.prog 49 #[.agg #[.slice A1 p.headers.length c1, .slice A2 p.metas.length c2, .slice A3 p.states.length c3, .slice A4 p.actions.length c4, .slice A5 p.tables.length c5, .slice A6 p.control.length c6, .slice A7 p.emit.length c7], .int .i64 act, .agg #[.int .u8 op, .int .i64 lit.1, .int .u64 lit.2.1, .int .u64 lit.2.2, .string head, .string name, .int .i64 hi, .int .i64 lo, .slice A args.length cap]] we fun z w' => z = .returned (.tuple #[.agg (tyC (ofE (askR p act (.mk op lit head name hi lo args))).1), .int .i64 (ofE (askR p act (.mk op lit head name hi lo args))).2]) ∧ Below we.heap.size we w' :=
  tOf_any A1 A2 A3 A4 A5 A6 A7 p c1 c2 c3 c4 c5 c6 c7 hm (.mk op lit head name hi lo args) _ we (Nat.le_trans hB hw.size) h0 ((hw.cell (p := ⟨0, 0, none⟩) (by show 0 < _; omega)).trans hz) (hP.below (hw.mono hB)) (sta_ex.keep hr fun q hq => (hw.mono hB).cell hq)
 unfold widthE
 generalize ofE (askR p act (.mk op lit head name hi lo args)) = R at hX ⊢
 obtain ⟨⟨tw, tr, tf⟩, n⟩ := R
 simp only [tyC] at hX
 have hw' := hide hw
 replace hX := hide hX
 clear hcv hce hbv hbe hEv cv hP hr hz hw
 have hgo : ∀ W, Below we.heap.size we W → Hid (Below w.heap.size w W) := fun W hW => hide (hw'.out.trans (hW.mono (by omega)))
 replace hse := hide hse
 replace hsv := hide hsv
 unfold widthV
 have hend : ∀ W, Below we.heap.size we W → ∀ o, Below w.heap.size w (W.alloc o) := fun W hW o => (hgo W hW).out.alloc (hgo W hW).out.size _
 cases tr with
 | true =>
  go_enter Tryz.func81, Tryz.ntmps81
  go_wp2_with (go_at_call 49; refine hX.out.mono ?_; rintro e w3 ⟨rfl, hb3⟩)
  go_ret
  exact ⟨rfl, hend _ hb3 _⟩
 | false =>
  cases tf with
  | true =>
   go_enter Tryz.func81, Tryz.ntmps81
   go_wp2_with (go_at_call 49; refine hX.out.mono ?_; rintro e w3 ⟨rfl, hb3⟩)
   go_ret
   exact ⟨rfl, hend _ hb3 _⟩
  | false =>
   go_enter Tryz.func81, Tryz.ntmps81
   go_wp2_with (go_at_call 49; refine hX.out.mono ?_; rintro e w3 ⟨rfl, hb3⟩)
   go_ret
   exact ⟨rfl, hend _ hb3 _⟩
/-- The node of what has no Args, at a width. -/
def leafN (p : Pg) (act op : Int) (lit : Lt) (head name : ByteArray) (z : Int) : Nd :=
 if op = 1 then ⟨1, z, 0, 0, lit.2.1, lit.2.2⟩
 else if op = 2 then ⟨2, z, headerI p head, fieldI p (headerI p head) name, 0, 0⟩
 else if op = 3 then ⟨3, z, metaI p name, 0, 0, 0⟩
 else if op = 4 then ⟨4, z, paramI p act name, 0, 0, 0⟩
 else if op = 6 then ⟨6, 1, headerI p head, 0, 0, 0⟩
 else ⟨5, z, 0, 0, 0, 0⟩
def ndV (n : Nd) : Value := .agg #[.int .u8 n.op, .int .i64 n.w, .int .i64 n.a, .int .i64 n.b, .int .u64 n.hi, .int .u64 n.lo]
set_option maxRecDepth 100000 in
set_option maxHeartbeats 8000000 in
theorem leaf_any (A1 A2 A3 A4 A5 A6 A7 : Option Addr) (p : Pg) (c1 c2 c3 c4 c5 c6 c7 : Nat) (act op : Int) (lit : Lt) (head name : ByteArray) (hi lo z : Int) (args : List Ex) (A : Option Addr) (cap : Nat) (w : World) (hop : op = 1 ∨ op = 5) :
  Calls Tryz.prog 82 #[.agg #[.slice A1 p.headers.length c1, .slice A2 p.metas.length c2, .slice A3 p.states.length c3, .slice A4 p.actions.length c4, .slice A5 p.tables.length c5, .slice A6 p.control.length c6, .slice A7 p.emit.length c7, .int .i64 act], .agg #[.int .u8 op, .int .i64 lit.1, .int .u64 lit.2.1, .int .u64 lit.2.2, .string head, .string name, .int .i64 hi, .int .i64 lo, .slice A args.length cap], .int .i64 z] w fun e w' => e = .returned (ndV (leafN p act op lit head name z)) ∧ Below w.heap.size w w' := by
 obtain ⟨wv, hwv, hsv, hbv, hcv, -⟩ := box1 w #[.slice A1 p.headers.length c1, .slice A2 p.metas.length c2, .slice A3 p.states.length c3, .slice A4 p.actions.length c4, .slice A5 p.tables.length c5, .slice A6 p.control.length c6, .slice A7 p.emit.length c7, .int .i64 act] 111
 obtain ⟨we, hwe, hse, hbe, hce, -⟩ := box1 wv #[.int .u8 op, .int .i64 lit.1, .int .u64 lit.2.1, .int .u64 lit.2.2, .string head, .string name, .int .i64 hi, .int .i64 lo, .slice A args.length cap] 65
 have hw : Below w.heap.size w we := hbv.trans (hbe.mono (by omega))
 obtain ⟨e0, e1, e2, e3, e4, e5, e6, e7, e8⟩ := row9 hce
 have hl2 : wv.heap.size < we.heap.size := by omega
 have hend : ∀ o, Below w.heap.size w (we.alloc o) := fun o => hw.alloc hw.size _
 replace hse := hide hse
 replace hsv := hide hsv
 clear hcv hce hbv hbe hw
 rcases hop with rfl | rfl
 ·go_enter Tryz.func82, Tryz.ntmps82
  go_wp2
  refine bodyPost_ret (v := ndV ⟨1, z, 0, 0, lit.2.1, lit.2.2⟩) (by simp [ndV, results, Tryz.results82, go_sem]) rfl ⟨rfl, ?_⟩
  exact hend _
 ·go_enter Tryz.func82, Tryz.ntmps82
  go_wp2
  refine bodyPost_ret (v := ndV ⟨5, z, 0, 0, 0, 0⟩) (by simp [ndV, results, Tryz.results82, go_sem]) rfl ⟨rfl, ?_⟩
  exact hend _
end Go.Proofs.YtmfpbahifhndjaaGreat
/-! Layer 10: code, of a leaf. -/
namespace Go.Proofs.YtmfpbahifhndjaaGreat
open Go.RowKit
/-- What code makes of an expression at a width. -/
def CodeIs (A1 A2 A3 A4 A5 A6 A7 : Option Addr) (p : Pg) (c1 c2 c3 c4 c5 c6 c7 : Nat) (m act : Int) (B : Nat) (e : Ex) (asked : Int) (c : List Nd) : Prop := ∀ (cs : List Value) (w : World), B ≤ w.heap.size → w.cell? ⟨0, 0, none⟩ = some (.int .i64 m) → PgS w B A1 A2 A3 A4 A5 A6 A7 p → rEx w B cs e →
  Calls Tryz.prog 50 #[.agg #[.slice A1 p.headers.length c1, .slice A2 p.metas.length c2, .slice A3 p.states.length c3, .slice A4 p.actions.length c4, .slice A5 p.tables.length c5, .slice A6 p.control.length c6, .slice A7 p.emit.length c7, .int .i64 act], .agg cs.toArray, .int .i64 asked] w fun z w' => ∃ A cap, z = .returned (.slice A c.length cap) ∧ NdS w' w.heap.size (.slice A c.length cap) c ∧ Below w.heap.size w w'
theorem NdS.fresh {w : World} {n : Nd} (hn : okN n) : NdS (w.alloc (.cells #[.int .u8 n.op, .int .i64 n.w, .int .i64 n.a, .int .i64 n.b, .int .u64 n.hi, .int .u64 n.lo] 79)) w.heap.size (.slice (some ⟨w.heap.size, 0, none⟩) 1 1) [n] :=
 ⟨fun x hx => by simp at hx; subst hx; exact hn, rfl, .inr ⟨w.heap.size, 1, _, rfl, Nat.le_refl _, heap_alloc_new w _, Nat.le_refl _, by simp [maxLen], rfl, rfl⟩⟩
set_option maxRecDepth 100000 in
set_option maxHeartbeats 8000000 in
theorem code_leaf (A1 A2 A3 A4 A5 A6 A7 : Option Addr) (p : Pg) (c1 c2 c3 c4 c5 c6 c7 : Nat) {m act : Int} {B : Nat} (h0 : 0 < B) (hm : wideP p = true) (op : Int) (lit : Lt) (head name : ByteArray) (hi lo asked : Int) (hop : op = 1 ∨ op = 5) :
  CodeIs A1 A2 A3 A4 A5 A6 A7 p c1 c2 c3 c4 c5 c6 c7 m act B (.mk op lit head name hi lo []) asked [leafN p act op lit head name (widthE p act (.mk op lit head name hi lo []) asked)] := by
 intro cs w hB hz hP hr
 have hr' := hr
 obtain ⟨A, cap, rfl, hu, hlt, -⟩ := RE.inv hr'
 clear hr'
 obtain ⟨args, hargs⟩ : ∃ args : List Ex, args = [] := ⟨_, rfl⟩
 have hnb : ((args.length : Int) == 0) = true := by rw [hargs]; rfl
 show Calls _ _ #[.agg #[.slice A1 p.headers.length c1, .slice A2 p.metas.length c2, .slice A3 p.states.length c3, .slice A4 p.actions.length c4, .slice A5 p.tables.length c5, .slice A6 p.control.length c6, .slice A7 p.emit.length c7, .int .i64 act], .agg #[.int .u8 op, .int .i64 lit.1, .int .u64 lit.2.1, .int .u64 lit.2.2, .string head, .string name, .int .i64 hi, .int .i64 lo, .slice A ([] : List Ex).length cap], .int .i64 asked] _ _
 rw [← hargs] at hr ⊢
 obtain ⟨wv, hwv, hsv, hbv, hcv, -⟩ := box1 w #[.slice A1 p.headers.length c1, .slice A2 p.metas.length c2, .slice A3 p.states.length c3, .slice A4 p.actions.length c4, .slice A5 p.tables.length c5, .slice A6 p.control.length c6, .slice A7 p.emit.length c7, .int .i64 act] 111
 obtain ⟨we, hwe, hse, hbe, hce, -⟩ := box1 wv #[.int .u8 op, .int .i64 lit.1, .int .u64 lit.2.1, .int .u64 lit.2.2, .string head, .string name, .int .i64 hi, .int .i64 lo, .slice A args.length cap] 65
 have hw : Below w.heap.size w we := hbv.trans (hbe.mono (by omega))
 have hl1 : w.heap.size < we.heap.size := by omega
 have hl2 : wv.heap.size < we.heap.size := by omega
 have cv := fun i => (hbe.cell (p := ⟨w.heap.size, i, none⟩) (by show w.heap.size < _; omega)).trans (hcv i)
 obtain ⟨v0, v1, v2, v3, v4, v5, v6, v7⟩ := row8 cv
 obtain ⟨e0, e1, e2, e3, e4, e5, e6, e7, e8⟩ := row9 hce
 have hX := lwidth_any A1 A2 A3 A4 A5 A6 A7 p c1 c2 c3 c4 c5 c6 c7 (m := m) (act := act) (B := B) hm (.mk op lit head name hi lo args) asked _ we (Nat.le_trans hB hw.size) h0 ((hw.cell (p := ⟨0, 0, none⟩) (by show 0 < _; omega)).trans hz) (hP.below (hw.mono hB)) (sta_ex.keep hr fun q hq => (hw.mono hB).cell hq)
 generalize widthE p act (.mk op lit head name hi lo args) asked = z at hX ⊢
 have hL := hide (fun W => leaf_any A1 A2 A3 A4 A5 A6 A7 p c1 c2 c3 c4 c5 c6 c7 act op lit head name hi lo z args A cap W hop)
 have hok : okN (leafN p act op lit head name z) := by
  rcases hop with rfl | rfl
  ·exact ⟨⟨by show (0 : Int) ≤ 1; omega, by show (1 : Int) < _; omega⟩, hlt.2.1, hlt.2.2⟩
  ·exact ⟨⟨by show (0 : Int) ≤ 5; omega, by show (5 : Int) < _; omega⟩, ⟨by show (0 : Int) ≤ 0; omega, by show (0 : Int) < _; omega⟩, ⟨by show (0 : Int) ≤ 0; omega, by show (0 : Int) < _; omega⟩⟩
 generalize leafN p act op lit head name z = nd at hL hok ⊢
 obtain ⟨n1, n2, n3, n4, n5, n6⟩ := nd
 have hfr := hide (fun (W : World) (hW : Below we.heap.size we W) => (⟨(NdS.fresh hok (w := W)).mono (Nat.le_trans hw.size hW.size), (hw.trans (hW.mono hw.size)).alloc (Nat.le_trans hw.size hW.size) _⟩ : NdS (W.alloc (.cells #[.int .u8 n1, .int .i64 n2, .int .i64 n3, .int .i64 n4, .int .u64 n5, .int .u64 n6] 79)) w.heap.size (.slice (some ⟨W.heap.size, 0, none⟩) 1 1) [⟨n1, n2, n3, n4, n5, n6⟩] ∧ Below w.heap.size w (W.alloc (.cells #[.int .u8 n1, .int .i64 n2, .int .i64 n3, .int .i64 n4, .int .u64 n5, .int .u64 n6] 79))))
 have hX' : Hid (Calls Tryz.prog 81 #[.agg #[.slice A1 p.headers.length c1, .slice A2 p.metas.length c2, .slice A3 p.states.length c3, .slice A4 p.actions.length c4, .slice A5 p.tables.length c5, .slice A6 p.control.length c6, .slice A7 p.emit.length c7, .int .i64 act], .agg #[.int .u8 op, .int .i64 lit.1, .int .u64 lit.2.1, .int .u64 lit.2.2, .string head, .string name, .int .i64 hi, .int .i64 lo, .slice A args.length cap], .int .i64 asked] we fun e w' => e = .returned (.int .i64 z) ∧ Below we.heap.size we w') := hide hX
 unfold ndV at hL
 simp only at hL
 replace hse := hide hse
 replace hsv := hide hsv
 clear hcv hce hbv hbe cv hP hr hz hX hok hlt hu hargs hw
 go_enter Tryz.func50, Tryz.ntmps50
 go_wp2_with (first
  | (go_at_call 81; refine hX'.out.mono ?_; rintro e w3 ⟨rfl, hb3⟩; have kb3 := bcell hb3)
  | (go_at_call 82; refine (hL.out _).mono ?_; rintro e w4 ⟨rfl, hb4⟩))
 go_ret
 have hW := hb3.trans (hb4.mono hb3.size)
 exact ⟨_, _, rfl, (hfr.out w4 hW).1, (hfr.out w4 hW).2⟩
end Go.Proofs.YtmfpbahifhndjaaGreat

import Derived.Test.YtbbdhknagofghaaGreatWhl39
import Derived.Test.YtbbdhknagofghaaGreatWhl33
set_option linter.all false
/-! Layer 7: the parts of all, each as it is told. -/
namespace Go.Proofs.YtbbdhknagofghaaGreat
open Go.RowKit
theorem part_heads {l B B0 : Nat} {w0 : World} {g : Nat → Bool} {J S : Nat → World → Prop} (A1 A2 A3 A4 A5 A6 A7 : Option Addr) (p : Pg) (c1 c2 c3 c4 c5 c6 c7 : Nat) (hY : Yl l B (itemsP p) g J S) (hown : OwnFrom B0 J) (hJK : ∀ k W, J k W → Below B w0 W) (hBB : B ≤ B0) (hP : PgS w0 B A1 A2 A3 A4 A5 A6 A7 p) (bp bo : Nat)
  (W : World) (hB0 : B0 ≤ W.heap.size) (hh : Held A1 A2 A3 A4 A5 A6 A7 p c1 c2 c3 c4 c5 c6 c7 l bp bo W) (hJ : J ([] : List It).length W) :
  Calls Tryz.prog 72 #[.int .u8 1, .int .i64 (p.headers.length : Int), .func (.yield l) #[] #[], .func (.func 73) #[] #[.pointer (some ⟨bp, 0, none⟩), .pointer (some ⟨bo, 0, none⟩)]] W (Told (itemsP p).length g J S W ([] : List It).length (headsI p).length) := by
 have hxs : itemsP p = ([] : List It) ++ (headsI p ++ (metasI p ++ (statesI p ++ (actsI p ++ (tabsI p ++ (itemsL (-1) p.control ++ (emitsI p))))))) := by simp [itemsP]
 refine part_each (f := fun h : Hd => h.fields.length) (by intro i a; exact length_manyI) hxs hY hP.headers.len 73 #[.pointer (some ⟨bp, 0, none⟩), .pointer (some ⟨bo, 0, none⟩)] enters_all2 W ?_ hJ
 intro i a j W1 ha hx hJ1 hk1
 exact heads_tells hY hown hJK A1 A2 A3 A4 A5 A6 A7 p c1 c2 c3 c4 c5 c6 c7 hP bp bo i j a ha W1 (by have := hk1.size; omega) (hh.kp hk1) (fun k hk => by rw [hx k hk]; exact many_get hk) hJ1
theorem part_metas {l B B0 : Nat} {w0 : World} {g : Nat → Bool} {J S : Nat → World → Prop} (A1 A2 A3 A4 A5 A6 A7 : Option Addr) (p : Pg) (c1 c2 c3 c4 c5 c6 c7 : Nat) (hY : Yl l B (itemsP p) g J S) (hown : OwnFrom B0 J) (hJK : ∀ k W, J k W → Below B w0 W) (hBB : B ≤ B0) (hP : PgS w0 B A1 A2 A3 A4 A5 A6 A7 p) (bp bo : Nat)
  (W : World) (hB0 : B0 ≤ W.heap.size) (hh : Held A1 A2 A3 A4 A5 A6 A7 p c1 c2 c3 c4 c5 c6 c7 l bp bo W) (hJ : J (headsI p).length W) :
  Calls Tryz.prog 72 #[.int .u8 3, .int .i64 (p.metas.length : Int), .func (.yield l) #[] #[], .func (.func 71) #[] #[]] W (Told (itemsP p).length g J S W (headsI p).length (metasI p).length) := by
 have hxs : itemsP p = (headsI p) ++ (metasI p ++ (statesI p ++ (actsI p ++ (tabsI p ++ (itemsL (-1) p.control ++ (emitsI p)))))) := by simp [itemsP]
 refine part_each (f := fun _ : Fd => 0) (by intro i a; rfl) hxs hY hP.metas.len 71 #[] enters_none W ?_ hJ
 intro i a j W1 ha hx hJ1 hk1
 exact none_tells (i : Int) W1 hJ1
theorem part_states {l B B0 : Nat} {w0 : World} {g : Nat → Bool} {J S : Nat → World → Prop} (A1 A2 A3 A4 A5 A6 A7 : Option Addr) (p : Pg) (c1 c2 c3 c4 c5 c6 c7 : Nat) (hY : Yl l B (itemsP p) g J S) (hown : OwnFrom B0 J) (hJK : ∀ k W, J k W → Below B w0 W) (hBB : B ≤ B0) (hP : PgS w0 B A1 A2 A3 A4 A5 A6 A7 p) (bp bo : Nat)
  (W : World) (hB0 : B0 ≤ W.heap.size) (hh : Held A1 A2 A3 A4 A5 A6 A7 p c1 c2 c3 c4 c5 c6 c7 l bp bo W) (hJ : J (headsI p ++ metasI p).length W) :
  Calls Tryz.prog 72 #[.int .u8 4, .int .i64 (p.states.length : Int), .func (.yield l) #[] #[], .func (.func 75) #[] #[.pointer (some ⟨bp, 0, none⟩), .pointer (some ⟨bo, 0, none⟩)]] W (Told (itemsP p).length g J S W (headsI p ++ metasI p).length (statesI p).length) := by
 have hxs : itemsP p = (headsI p ++ metasI p) ++ (statesI p ++ (actsI p ++ (tabsI p ++ (itemsL (-1) p.control ++ (emitsI p))))) := by simp [itemsP]
 refine part_each (f := fun s : Sa => s.takes.length + (1 + s.cases_.length)) (by intro i a; simp [length_manyI]; omega) hxs hY hP.states.len 75 #[.pointer (some ⟨bp, 0, none⟩), .pointer (some ⟨bo, 0, none⟩)] enters_all3 W ?_ hJ
 intro i a j W1 ha hx hJ1 hk1
 have hx1 : ∀ k : Nat, k < a.takes.length → (itemsP p)[j + k]? = some ⟨5, (i : Int), (k : Int), zSt⟩ := fun k hk => by
  rw [hx k (by omega), List.getElem?_append_left (by rw [length_manyI]; exact hk)]; exact many_get hk
 have hx2 : (itemsP p)[j + a.takes.length]? = some ⟨6, (i : Int), 0, zSt⟩ := by
  rw [hx _ (by omega), List.getElem?_append_right (by rw [length_manyI]; omega), length_manyI, Nat.sub_self]; rfl
 have hx3 : ∀ k : Nat, k < a.cases_.length → (itemsP p)[j + a.takes.length + 1 + k]? = some ⟨7, (i : Int), (k : Int), zSt⟩ := fun k hk => by
  rw [show j + a.takes.length + 1 + k = j + (a.takes.length + (k + 1)) by omega, hx _ (by omega), List.getElem?_append_right (by rw [length_manyI]; omega), length_manyI, Nat.add_sub_cancel_left, List.getElem?_cons_succ]; exact many_get hk
 exact stas_tells hY hown hJK A1 A2 A3 A4 A5 A6 A7 p c1 c2 c3 c4 c5 c6 c7 hP bp bo i j a ha W1 (by have := hk1.size; omega) (hh.kp hk1) hx1 hx2 hx3 hJ1
theorem part_acts {l B B0 : Nat} {w0 : World} {g : Nat → Bool} {J S : Nat → World → Prop} (A1 A2 A3 A4 A5 A6 A7 : Option Addr) (p : Pg) (c1 c2 c3 c4 c5 c6 c7 : Nat) (hY : Yl l B (itemsP p) g J S) (hown : OwnFrom B0 J) (hJK : ∀ k W, J k W → Below B w0 W) (hBB : B ≤ B0) (hP : PgS w0 B A1 A2 A3 A4 A5 A6 A7 p) (bp bo : Nat)
  (W : World) (hB0 : B0 ≤ W.heap.size) (hh : Held A1 A2 A3 A4 A5 A6 A7 p c1 c2 c3 c4 c5 c6 c7 l bp bo W) (hJ : J (headsI p ++ metasI p ++ statesI p).length W) :
  Calls Tryz.prog 72 #[.int .u8 8, .int .i64 (p.actions.length : Int), .func (.yield l) #[] #[], .func (.func 76) #[] #[.pointer (some ⟨bp, 0, none⟩), .pointer (some ⟨bo, 0, none⟩)]] W (Told (itemsP p).length g J S W (headsI p ++ metasI p ++ statesI p).length (actsI p).length) := by
 have hxs : itemsP p = (headsI p ++ metasI p ++ statesI p) ++ (actsI p ++ (tabsI p ++ (itemsL (-1) p.control ++ (emitsI p)))) := by simp [itemsP]
 refine part_each (f := fun s : Ac => s.params.length + countL s.body) (by intro i a; simp [length_manyI, count_itemsL]) hxs hY hP.actions.len 76 #[.pointer (some ⟨bp, 0, none⟩), .pointer (some ⟨bo, 0, none⟩)] enters_all4 W ?_ hJ
 intro i a j W1 ha hx hJ1 hk1
 have hx1 : ∀ k : Nat, k < a.params.length → (itemsP p)[j + k]? = some ⟨9, (i : Int), (k : Int), zSt⟩ := fun k hk => by
  rw [hx k (by omega), List.getElem?_append_left (by rw [length_manyI]; exact hk)]; exact many_get hk
 have hx2 : ∀ (k : Nat) (x : It), (itemsL (i : Int) a.body)[k]? = some x → (itemsP p)[j + a.params.length + k]? = some x := fun k x hx2 => by
  have hk := (List.getElem?_eq_some_iff.1 hx2).1
  rw [count_itemsL] at hk
  rw [show j + a.params.length + k = j + (a.params.length + k) by omega, hx _ (by omega), List.getElem?_append_right (by rw [length_manyI]; omega), length_manyI, Nat.add_sub_cancel_left]; exact hx2
 rw [← count_itemsL (i : Int) a.body]
 exact acts_tells hY hown hJK hBB A1 A2 A3 A4 A5 A6 A7 p c1 c2 c3 c4 c5 c6 c7 hP bp bo i j a ha W1 (by have := hk1.size; omega) (hh.kp hk1) hx1 hx2 hJ1
theorem part_tabs {l B B0 : Nat} {w0 : World} {g : Nat → Bool} {J S : Nat → World → Prop} (A1 A2 A3 A4 A5 A6 A7 : Option Addr) (p : Pg) (c1 c2 c3 c4 c5 c6 c7 : Nat) (hY : Yl l B (itemsP p) g J S) (hown : OwnFrom B0 J) (hJK : ∀ k W, J k W → Below B w0 W) (hBB : B ≤ B0) (hP : PgS w0 B A1 A2 A3 A4 A5 A6 A7 p) (bp bo : Nat)
  (W : World) (hB0 : B0 ≤ W.heap.size) (hh : Held A1 A2 A3 A4 A5 A6 A7 p c1 c2 c3 c4 c5 c6 c7 l bp bo W) (hJ : J (headsI p ++ metasI p ++ statesI p ++ actsI p).length W) :
  Calls Tryz.prog 72 #[.int .u8 11, .int .i64 (p.tables.length : Int), .func (.yield l) #[] #[], .func (.func 78) #[] #[.pointer (some ⟨bp, 0, none⟩), .pointer (some ⟨bo, 0, none⟩)]] W (Told (itemsP p).length g J S W (headsI p ++ metasI p ++ statesI p ++ actsI p).length (tabsI p).length) := by
 have hxs : itemsP p = (headsI p ++ metasI p ++ statesI p ++ actsI p) ++ (tabsI p ++ (itemsL (-1) p.control ++ (emitsI p))) := by simp [itemsP]
 refine part_each (f := fun s : Ta => s.keys.length + (s.actions.length + 1)) (by intro i a; simp [length_manyI]) hxs hY hP.tables.len 78 #[.pointer (some ⟨bp, 0, none⟩), .pointer (some ⟨bo, 0, none⟩)] enters_all5 W ?_ hJ
 intro i a j W1 ha hx hJ1 hk1
 have hx1 : ∀ k : Nat, k < a.keys.length → (itemsP p)[j + k]? = some ⟨12, (i : Int), (k : Int), zSt⟩ := fun k hk => by
  rw [hx k (by omega), List.getElem?_append_left (by rw [length_manyI]; exact hk)]; exact many_get hk
 have hx3 : ∀ k : Nat, k < a.actions.length → (itemsP p)[j + a.keys.length + k]? = some ⟨13, (i : Int), (k : Int), zSt⟩ := fun k hk => by
  rw [show j + a.keys.length + k = j + (a.keys.length + k) by omega, hx _ (by omega), List.getElem?_append_right (by rw [length_manyI]; omega), length_manyI, Nat.add_sub_cancel_left, List.getElem?_append_left (by rw [length_manyI]; exact hk)]; exact many_get hk
 have hx2 : (itemsP p)[j + a.keys.length + a.actions.length]? = some ⟨14, (i : Int), 0, zSt⟩ := by
  rw [show j + a.keys.length + a.actions.length = j + (a.keys.length + a.actions.length) by omega, hx _ (by omega), List.getElem?_append_right (by rw [length_manyI]; omega), length_manyI, Nat.add_sub_cancel_left, List.getElem?_append_right (by rw [length_manyI]; omega), length_manyI, Nat.sub_self]; rfl
 exact tabs_tells hY hown hJK A1 A2 A3 A4 A5 A6 A7 p c1 c2 c3 c4 c5 c6 c7 hP bp bo i j a ha W1 (by have := hk1.size; omega) (hh.kp hk1) hx1 hx3 hx2 hJ1
theorem part_ctrl {l B B0 : Nat} {w0 : World} {g : Nat → Bool} {J S : Nat → World → Prop} (A1 A2 A3 A4 A5 A6 A7 : Option Addr) (p : Pg) (c1 c2 c3 c4 c5 c6 c7 : Nat) (hY : Yl l B (itemsP p) g J S) (hown : OwnFrom B0 J) (hJK : ∀ k W, J k W → Below B w0 W) (hBB : B ≤ B0) (hP : PgS w0 B A1 A2 A3 A4 A5 A6 A7 p) (bp bo : Nat)
  (W : World) (hB0 : B0 ≤ W.heap.size) (hh : Held A1 A2 A3 A4 A5 A6 A7 p c1 c2 c3 c4 c5 c6 c7 l bp bo W) (A : Option Addr) (hS : Sl 14 rSt w0 B A p.control) (cap : Nat) (hJ : J (headsI p ++ metasI p ++ statesI p ++ actsI p ++ tabsI p).length W) :
  Calls Tryz.prog 77 #[.int .i64 (-1), .slice A p.control.length cap, .func (.yield l) #[] #[]] W (Told (itemsP p).length g J S W (headsI p ++ metasI p ++ statesI p ++ actsI p ++ tabsI p).length (itemsL (-1) p.control).length) := by
 have hxs : itemsP p = (headsI p ++ metasI p ++ statesI p ++ actsI p ++ tabsI p) ++ (itemsL (-1) p.control ++ (emitsI p)) := by simp [itemsP]
 exact stmts_tells hY hown hJK hBB p.control (-1) A cap W _ hS hB0 (fun k x hx => by rw [hxs, seg _ (List.getElem?_eq_some_iff.1 hx).1]; exact hx) hJ
theorem part_emits {l B B0 : Nat} {w0 : World} {g : Nat → Bool} {J S : Nat → World → Prop} (A1 A2 A3 A4 A5 A6 A7 : Option Addr) (p : Pg) (c1 c2 c3 c4 c5 c6 c7 : Nat) (hY : Yl l B (itemsP p) g J S) (hown : OwnFrom B0 J) (hJK : ∀ k W, J k W → Below B w0 W) (hBB : B ≤ B0) (hP : PgS w0 B A1 A2 A3 A4 A5 A6 A7 p) (bp bo : Nat)
  (W : World) (hB0 : B0 ≤ W.heap.size) (hh : Held A1 A2 A3 A4 A5 A6 A7 p c1 c2 c3 c4 c5 c6 c7 l bp bo W) (hJ : J (headsI p ++ metasI p ++ statesI p ++ actsI p ++ tabsI p ++ itemsL (-1) p.control).length W) :
  Calls Tryz.prog 72 #[.int .u8 15, .int .i64 (p.emit.length : Int), .func (.yield l) #[] #[], .func (.func 71) #[] #[]] W (Told (itemsP p).length g J S W (headsI p ++ metasI p ++ statesI p ++ actsI p ++ tabsI p ++ itemsL (-1) p.control).length (emitsI p).length) := by
 have hxs : itemsP p = (headsI p ++ metasI p ++ statesI p ++ actsI p ++ tabsI p ++ itemsL (-1) p.control) ++ (emitsI p ++ []) := by simp [itemsP]
 refine part_each (f := fun _ : ByteArray => 0) (by intro i a; rfl) hxs hY hP.emit.len 71 #[] enters_none W ?_ hJ
 intro i a j W1 ha hx hJ1 hk1
 exact none_tells (i : Int) W1 hJ1
end Go.Proofs.YtbbdhknagofghaaGreat
/-! Layer 7: all: the iterator over a program's items. -/
namespace Go.Proofs.YtbbdhknagofghaaGreat
open Go.RowKit
set_option maxHeartbeats 1000000 in
theorem all_any (A1 A2 A3 A4 A5 A6 A7 : Option Addr) (p : Pg) (c1 c2 c3 c4 c5 c6 c7 : Nat) (w : World) : Calls Tryz.prog 31 #[.agg #[.slice A1 p.headers.length c1, .slice A2 p.metas.length c2, .slice A3 p.states.length c3, .slice A4 p.actions.length c4, .slice A5 p.tables.length c5, .slice A6 p.control.length c6, .slice A7 p.emit.length c7]] w fun e w' => e = .returned (.func (.func 70) #[] #[.pointer (some ⟨w.heap.size, 0, none⟩)]) ∧ w' = w.alloc (.cells #[.slice A1 p.headers.length c1, .slice A2 p.metas.length c2, .slice A3 p.states.length c3, .slice A4 p.actions.length c4, .slice A5 p.tables.length c5, .slice A6 p.control.length c6, .slice A7 p.emit.length c7] 30) := by
 go_enter Tryz.func31, Tryz.ntmps31
 go_wp2
 go_ret
 exact ⟨rfl, rfl⟩
theorem enters_all1 : ∀ args w, (callFunc 70 args).run Tryz.prog w = .ok (.enter 70 args) w := enters_of Tryz.func70 (by kernel_rfl) rfl
/-- What all's iterator has told behind it. -/
def Over (n : Nat) (J S : Nat → World → Prop) (W : World) (e : Ending) (W' : World) : Prop := (∃ v, e = .returned v) ∧ ((J n W' ∧ Kp exI W W') ∨ ∃ k, k < n ∧ S k W')
set_option maxRecDepth 100000 in
set_option maxHeartbeats 8000000 in
theorem all1_walk {l B B0 : Nat} {w0 : World} {g : Nat → Bool} {J S : Nat → World → Prop} (A1 A2 A3 A4 A5 A6 A7 : Option Addr) (p : Pg) (c1 c2 c3 c4 c5 c6 c7 : Nat) (hY : Yl l B (itemsP p) g J S) (hown : OwnFrom B0 J) (hJK : ∀ k W, J k W → Below B w0 W) (hBB : B ≤ B0) (hP : PgS w0 B A1 A2 A3 A4 A5 A6 A7 p) (bp : Nat)
  (W : World) (hB0 : B0 ≤ W.heap.size) (hbp : W.heap[bp]? = some (.cells #[.slice A1 p.headers.length c1, .slice A2 p.metas.length c2, .slice A3 p.states.length c3, .slice A4 p.actions.length c4, .slice A5 p.tables.length c5, .slice A6 p.control.length c6, .slice A7 p.emit.length c7] 30)) (hJ : J 0 W) :
  Calls Tryz.prog 70 #[.func (.yield l) #[] #[], .pointer (some ⟨bp, 0, none⟩)] W (Over (itemsP p).length J S W) := by
 obtain ⟨W1, hW1⟩ : ∃ W1, W.alloc (.cells #[.func (.yield l) #[] #[]] 131) = W1 := ⟨_, rfl⟩
 have hb1 : Below W.heap.size W W1 := by rw [← hW1]; exact (Below.refl _ _).alloc (Nat.le_refl _) _
 have hh1 : Held A1 A2 A3 A4 A5 A6 A7 p c1 c2 c3 c4 c5 c6 c7 l bp W.heap.size W1 := ⟨(hb1.block bp (Array.getElem?_eq_some_iff.1 hbp).1).trans hbp, by rw [← hW1]; exact World.alloc_heap_new W _⟩
 have l1 := hP.headers.len
 have l2 := hP.metas.len
 have l3 := hP.states.len
 have l4 := hP.actions.len
 have l5 := hP.tables.len
 have l6 := hP.control.len
 have l7 := hP.emit.len
 have hJ1 : J 0 W1 := own_step_none hown hJ hb1
 have hk1 := hide (Kp.of_below exI hb1)
 have hz1 : W.heap.size < W1.heap.size := (Array.getElem?_eq_some_iff.1 hh1.yield).1
 have hbpl : bp < W1.heap.size := (Array.getElem?_eq_some_iff.1 hh1.prog).1
 have hC1 := hide (fun (W2 : World) (h0 : B0 ≤ W2.heap.size) (hh : Held A1 A2 A3 A4 A5 A6 A7 p c1 c2 c3 c4 c5 c6 c7 l bp W.heap.size W2) (h : J ([] : List It).length W2) => part_heads A1 A2 A3 A4 A5 A6 A7 p c1 c2 c3 c4 c5 c6 c7 hY hown hJK hBB hP bp W.heap.size W2 h0 hh h)
 have hC2 := hide (fun (W2 : World) (h0 : B0 ≤ W2.heap.size) (hh : Held A1 A2 A3 A4 A5 A6 A7 p c1 c2 c3 c4 c5 c6 c7 l bp W.heap.size W2) (h : J (headsI p).length W2) => part_metas A1 A2 A3 A4 A5 A6 A7 p c1 c2 c3 c4 c5 c6 c7 hY hown hJK hBB hP bp W.heap.size W2 h0 hh h)
 have hC3 := hide (fun (W2 : World) (h0 : B0 ≤ W2.heap.size) (hh : Held A1 A2 A3 A4 A5 A6 A7 p c1 c2 c3 c4 c5 c6 c7 l bp W.heap.size W2) (h : J (headsI p ++ metasI p).length W2) => part_states A1 A2 A3 A4 A5 A6 A7 p c1 c2 c3 c4 c5 c6 c7 hY hown hJK hBB hP bp W.heap.size W2 h0 hh h)
 have hC4 := hide (fun (W2 : World) (h0 : B0 ≤ W2.heap.size) (hh : Held A1 A2 A3 A4 A5 A6 A7 p c1 c2 c3 c4 c5 c6 c7 l bp W.heap.size W2) (h : J (headsI p ++ metasI p ++ statesI p).length W2) => part_acts A1 A2 A3 A4 A5 A6 A7 p c1 c2 c3 c4 c5 c6 c7 hY hown hJK hBB hP bp W.heap.size W2 h0 hh h)
 have hC5 := hide (fun (W2 : World) (h0 : B0 ≤ W2.heap.size) (hh : Held A1 A2 A3 A4 A5 A6 A7 p c1 c2 c3 c4 c5 c6 c7 l bp W.heap.size W2) (h : J (headsI p ++ metasI p ++ statesI p ++ actsI p).length W2) => part_tabs A1 A2 A3 A4 A5 A6 A7 p c1 c2 c3 c4 c5 c6 c7 hY hown hJK hBB hP bp W.heap.size W2 h0 hh h)
 have hC6 := hide (fun (W2 : World) (h0 : B0 ≤ W2.heap.size) (hh : Held A1 A2 A3 A4 A5 A6 A7 p c1 c2 c3 c4 c5 c6 c7 l bp W.heap.size W2) (h : J (headsI p ++ metasI p ++ statesI p ++ actsI p ++ tabsI p).length W2) => part_ctrl A1 A2 A3 A4 A5 A6 A7 p c1 c2 c3 c4 c5 c6 c7 hY hown hJK hBB hP bp W.heap.size W2 h0 hh A6 hP.control c6 h)
 have hC7 := hide (fun (W2 : World) (h0 : B0 ≤ W2.heap.size) (hh : Held A1 A2 A3 A4 A5 A6 A7 p c1 c2 c3 c4 c5 c6 c7 l bp W.heap.size W2) (h : J (headsI p ++ metasI p ++ statesI p ++ actsI p ++ tabsI p ++ itemsL (-1) p.control).length W2) => part_emits A1 A2 A3 A4 A5 A6 A7 p c1 c2 c3 c4 c5 c6 c7 hY hown hJK hBB hP bp W.heap.size W2 h0 hh h)
 have ho1 := hide (show ([] : List It).length + (headsI p).length = (headsI p).length from by simp [List.length_append])
 have ho2 := hide (show (headsI p).length + (metasI p).length = (headsI p ++ metasI p).length from by simp [List.length_append])
 have ho3 := hide (show (headsI p ++ metasI p).length + (statesI p).length = (headsI p ++ metasI p ++ statesI p).length from by simp [List.length_append]; omega)
 have ho4 := hide (show (headsI p ++ metasI p ++ statesI p).length + (actsI p).length = (headsI p ++ metasI p ++ statesI p ++ actsI p).length from by simp [List.length_append]; omega)
 have ho5 := hide (show (headsI p ++ metasI p ++ statesI p ++ actsI p).length + (tabsI p).length = (headsI p ++ metasI p ++ statesI p ++ actsI p ++ tabsI p).length from by simp [List.length_append]; omega)
 have ho6 := hide (show (headsI p ++ metasI p ++ statesI p ++ actsI p ++ tabsI p).length + (itemsL (-1) p.control).length = (headsI p ++ metasI p ++ statesI p ++ actsI p ++ tabsI p ++ itemsL (-1) p.control).length from by simp [List.length_append]; omega)
 have ho7 := hide (show (headsI p ++ metasI p ++ statesI p ++ actsI p ++ tabsI p ++ itemsL (-1) p.control).length + (emitsI p).length = (itemsP p).length from by simp [itemsP, List.length_append]; omega)
 obtain ⟨ta0, ta1, ta2, ta3, ta4, ta5, ta6⟩ := row7 (heap_cells hh1.prog)
 have taq : W1.cell? ⟨W.heap.size, 0, none⟩ = some (.func (.yield l) #[] #[]) := heap_cells hh1.yield 0
 replace hh1 := hide hh1
 clear hY hJK hP hbp hJ hb1
 replace hown := hide hown
 go_enter Tryz.func70, Tryz.ntmps70
 have hcall1 := hide (hC1.out W1 (by omega) hh1.out hJ1)
 clear hJ1 hC1
 go_wp2_with fail
 refine hcall1.out.mono ?_
 rintro e W2 ⟨rfl, h1, h2⟩
 cases hr : runB g ([] : List It).length (headsI p).length with
 | false =>
  have hS := hide (h2 hr)
  clear h1 h2 hr
  go_wp2
  go_end0
  exact ⟨⟨_, rfl⟩, .inr hS.out⟩
 | true =>
  obtain ⟨hJn, hkn⟩ := h1 hr
  rw [ho1.out] at hJn
  have hh2 := hh1.out.kp hkn
  have hk2 := hide (hk1.out.trans hkn)
  have hzz : W.heap.size < W2.heap.size := (Array.getElem?_eq_some_iff.1 hh2.yield).1
  have hzb : bp < W2.heap.size := (Array.getElem?_eq_some_iff.1 hh2.prog).1
  have hcall2 := hide (hC2.out W2 (by omega) hh2 hJn)
  obtain ⟨tb0, tb1, tb2, tb3, tb4, tb5, tb6⟩ := row7 (heap_cells hh2.prog)
  have tbq : W2.cell? ⟨W.heap.size, 0, none⟩ = some (.func (.yield l) #[] #[]) := heap_cells hh2.yield 0
  replace hh2 := hide hh2
  clear h1 h2 hr hJn hkn hC2 hcall1
  go_wp2_with fail
  refine hcall2.out.mono ?_
  rintro e W3 ⟨rfl, h1, h2⟩
  cases hr : runB g (headsI p).length (metasI p).length with
  | false =>
   have hS := hide (h2 hr)
   clear h1 h2 hr
   go_wp2
   go_end0
   exact ⟨⟨_, rfl⟩, .inr hS.out⟩
  | true =>
   obtain ⟨hJn, hkn⟩ := h1 hr
   rw [ho2.out] at hJn
   have hh3 := hh2.out.kp hkn
   have hk3 := hide (hk2.out.trans hkn)
   have hzz : W.heap.size < W3.heap.size := (Array.getElem?_eq_some_iff.1 hh3.yield).1
   have hzb : bp < W3.heap.size := (Array.getElem?_eq_some_iff.1 hh3.prog).1
   have hcall3 := hide (hC3.out W3 (by omega) hh3 hJn)
   obtain ⟨tc0, tc1, tc2, tc3, tc4, tc5, tc6⟩ := row7 (heap_cells hh3.prog)
   have tcq : W3.cell? ⟨W.heap.size, 0, none⟩ = some (.func (.yield l) #[] #[]) := heap_cells hh3.yield 0
   replace hh3 := hide hh3
   clear h1 h2 hr hJn hkn hC3 hcall2
   go_wp2_with fail
   refine hcall3.out.mono ?_
   rintro e W4 ⟨rfl, h1, h2⟩
   cases hr : runB g (headsI p ++ metasI p).length (statesI p).length with
   | false =>
    have hS := hide (h2 hr)
    clear h1 h2 hr
    go_wp2
    go_end0
    exact ⟨⟨_, rfl⟩, .inr hS.out⟩
   | true =>
    obtain ⟨hJn, hkn⟩ := h1 hr
    rw [ho3.out] at hJn
    have hh4 := hh3.out.kp hkn
    have hk4 := hide (hk3.out.trans hkn)
    have hzz : W.heap.size < W4.heap.size := (Array.getElem?_eq_some_iff.1 hh4.yield).1
    have hzb : bp < W4.heap.size := (Array.getElem?_eq_some_iff.1 hh4.prog).1
    have hcall4 := hide (hC4.out W4 (by omega) hh4 hJn)
    obtain ⟨td0, td1, td2, td3, td4, td5, td6⟩ := row7 (heap_cells hh4.prog)
    have tdq : W4.cell? ⟨W.heap.size, 0, none⟩ = some (.func (.yield l) #[] #[]) := heap_cells hh4.yield 0
    replace hh4 := hide hh4
    clear h1 h2 hr hJn hkn hC4 hcall3
    go_wp2_with fail
    refine hcall4.out.mono ?_
    rintro e W5 ⟨rfl, h1, h2⟩
    cases hr : runB g (headsI p ++ metasI p ++ statesI p).length (actsI p).length with
    | false =>
     have hS := hide (h2 hr)
     clear h1 h2 hr
     go_wp2
     go_end0
     exact ⟨⟨_, rfl⟩, .inr hS.out⟩
    | true =>
     obtain ⟨hJn, hkn⟩ := h1 hr
     rw [ho4.out] at hJn
     have hh5 := hh4.out.kp hkn
     have hk5 := hide (hk4.out.trans hkn)
     have hzz : W.heap.size < W5.heap.size := (Array.getElem?_eq_some_iff.1 hh5.yield).1
     have hzb : bp < W5.heap.size := (Array.getElem?_eq_some_iff.1 hh5.prog).1
     have hcall5 := hide (hC5.out W5 (by omega) hh5 hJn)
     obtain ⟨te0, te1, te2, te3, te4, te5, te6⟩ := row7 (heap_cells hh5.prog)
     have teq : W5.cell? ⟨W.heap.size, 0, none⟩ = some (.func (.yield l) #[] #[]) := heap_cells hh5.yield 0
     replace hh5 := hide hh5
     clear h1 h2 hr hJn hkn hC5 hcall4
     go_wp2_with fail
     refine hcall5.out.mono ?_
     rintro e W6 ⟨rfl, h1, h2⟩
     cases hr : runB g (headsI p ++ metasI p ++ statesI p ++ actsI p).length (tabsI p).length with
     | false =>
      have hS := hide (h2 hr)
      clear h1 h2 hr
      go_wp2
      go_end0
      exact ⟨⟨_, rfl⟩, .inr hS.out⟩
     | true =>
      obtain ⟨hJn, hkn⟩ := h1 hr
      rw [ho5.out] at hJn
      have hh6 := hh5.out.kp hkn
      have hk6 := hide (hk5.out.trans hkn)
      have hzz : W.heap.size < W6.heap.size := (Array.getElem?_eq_some_iff.1 hh6.yield).1
      have hzb : bp < W6.heap.size := (Array.getElem?_eq_some_iff.1 hh6.prog).1
      have hcall6 := hide (hC6.out W6 (by omega) hh6 hJn)
      obtain ⟨tf0, tf1, tf2, tf3, tf4, tf5, tf6⟩ := row7 (heap_cells hh6.prog)
      have tfq : W6.cell? ⟨W.heap.size, 0, none⟩ = some (.func (.yield l) #[] #[]) := heap_cells hh6.yield 0
      replace hh6 := hide hh6
      clear h1 h2 hr hJn hkn hC6 hcall5
      go_wp2_with fail
      refine hcall6.out.mono ?_
      rintro e W7 ⟨rfl, h1, h2⟩
      cases hr : runB g (headsI p ++ metasI p ++ statesI p ++ actsI p ++ tabsI p).length (itemsL (-1) p.control).length with
      | false =>
       have hS := hide (h2 hr)
       clear h1 h2 hr
       go_wp2
       go_end0
       exact ⟨⟨_, rfl⟩, .inr hS.out⟩
      | true =>
       obtain ⟨hJn, hkn⟩ := h1 hr
       rw [ho6.out] at hJn
       have hh7 := hh6.out.kp hkn
       have hk7 := hide (hk6.out.trans hkn)
       have hzz : W.heap.size < W7.heap.size := (Array.getElem?_eq_some_iff.1 hh7.yield).1
       have hzb : bp < W7.heap.size := (Array.getElem?_eq_some_iff.1 hh7.prog).1
       have hcall7 := hide (hC7.out W7 (by omega) hh7 hJn)
       obtain ⟨tg0, tg1, tg2, tg3, tg4, tg5, tg6⟩ := row7 (heap_cells hh7.prog)
       have tgq : W7.cell? ⟨W.heap.size, 0, none⟩ = some (.func (.yield l) #[] #[]) := heap_cells hh7.yield 0
       replace hh7 := hide hh7
       clear h1 h2 hr hJn hkn hC7 hcall6
       go_wp2_with fail
       refine hcall7.out.mono ?_
       rintro e W8 ⟨rfl, h1, h2⟩
       cases hr : runB g (headsI p ++ metasI p ++ statesI p ++ actsI p ++ tabsI p ++ itemsL (-1) p.control).length (emitsI p).length with
       | false =>
        have hS := hide (h2 hr)
        clear h1 h2 hr
        go_wp2
        go_end0
        exact ⟨⟨_, rfl⟩, .inr hS.out⟩
       | true =>
        obtain ⟨hJn, hkn⟩ := h1 hr
        rw [ho7.out] at hJn
        have hJN := hide hJn
        have hkN := hide (hk7.out.trans hkn)
        clear h1 h2 hr hJn hkn
        go_wp2
        go_end0
        exact ⟨⟨_, rfl⟩, .inl ⟨hJN.out, hkN.out⟩⟩
end Go.Proofs.YtbbdhknagofghaaGreat
/-! Layer 7: Check: plain laws of the first fault, and the iterator's law in the shape of a range. -/
namespace Go.Proofs.YtbbdhknagofghaaGreat
open Go.RowKit
theorem firstBad_from {p : Pg} : ∀ (l : List It) (n k : Nat) (x : It), l[k]? = some x → checkI p x ≠ 0 → (∀ i y, i < k → l[i]? = some y → checkI p y = 0) → firstBad p l n = (((n + k : Nat) : Int), checkI p x)
 | [], _, _, _, h, _, _ => by simp at h
 | y :: l, n, 0, x, h, hx, _ => by
  simp at h; subst h
  rw [firstBad, if_neg hx]; rfl
 | y :: l, n, k + 1, x, h, hx, ha => by
  have h0 := ha 0 y (by omega) rfl
  rw [firstBad, if_pos h0, firstBad_from l (n + 1) k x (by simpa using h) hx (fun i z hi hz => ha (i + 1) z (by omega) (by simpa using hz)), Nat.add_right_comm, Nat.add_assoc]
theorem firstBad_none {p : Pg} : ∀ (l : List It) (n : Nat), (∀ i y, i < l.length → l[i]? = some y → checkI p y = 0) → firstBad p l n = (((n + l.length : Nat) : Int), 0)
 | [], n, _ => by simp [firstBad]
 | y :: l, n, ha => by
  have h0 := ha 0 y (by simp) rfl
  rw [firstBad, if_pos h0, firstBad_none l (n + 1) (fun i z hi hz => ha (i + 1) z (by simp; omega) (by simpa using hz)), List.length_cons, Nat.add_right_comm, Nat.add_assoc]
/-- What is handed over, in a world that has all below B. -/
def itR' (B : Nat) (x : It) (v : Value) (W : World) : Prop := B ≤ W.heap.size ∧ itR B x v W
theorem itR_own {B Bf : Nat} (hB : B ≤ Bf) (x : It) (v : Value) : OwnFrom Bf (fun (_ : Unit) W => itR' B x v W) := by
 rintro _ X Y row ⟨h1, cs, rfl, h2⟩ hg hr
 exact ⟨Nat.le_trans h1 hg.size, cs, rfl, sta_it.keep h2 fun q hq => World.cell?_of_block (hg.block q.block (Nat.lt_of_lt_of_le hq h1) (fun e => by have := (hr _ e.symm).1; omega))⟩
theorem own_cells {β : Type} (k : Nat) (cs : Array Value) (t : TypeId) : Own (fun (_ : β) W => W.heap[k]? = some (.cells cs t)) := fun _ _ _ _ hs hg hr => (grownBy_keeps_cells hg hr hs rfl).trans hs
theorem all_gives {w0 : World} {B : Nat} (go : It → Bool) (A1 A2 A3 A4 A5 A6 A7 : Option Addr) (p : Pg) (c1 c2 c3 c4 c5 c6 c7 : Nat) (hP : PgS w0 B A1 A2 A3 A4 A5 A6 A7 p) (hB0 : B ≤ w0.heap.size) (bp : Nat) (w : World) (hBw : B ≤ w.heap.size) (hbp : w.heap[bp]? = some (.cells #[.slice A1 p.headers.length c1, .slice A2 p.metas.length c2, .slice A3 p.states.length c3, .slice A4 p.actions.length c4, .slice A5 p.tables.length c5, .slice A6 p.control.length c6, .slice A7 p.emit.length c7] 30)) :
  GivesS Tryz.prog 70 #[.pointer (some ⟨bp, 0, none⟩)] (itR' B) exI (itemsP p) go (fun W => Below w0.heap.size w0 W) w := by
 intro l J S W hW hJ hS hJK hY h0
 have hYl : Yl l B (itemsP p) (fun k => ((itemsP p)[k]?).elim true go) J S := fun k x v W1 hx h1 hr => by
  have := hY k x v W1 hx h1 ⟨Nat.le_trans hB0 (hJK k W1 h1).size, hr⟩
  show YldS _ l v W1 (((itemsP p)[k]?).elim true go) _ _
  rw [hx]
  exact this
 exact all1_walk A1 A2 A3 A4 A5 A6 A7 p c1 c2 c3 c4 c5 c6 c7 hYl hJ (fun k W' h => (hJK k W' h).mono hB0) (Nat.le_trans hBw hW.size) hP bp W (Nat.le_refl _) ((hW.block bp (Array.getElem?_eq_some_iff.1 hbp).1).trans hbp) h0
end Go.Proofs.YtbbdhknagofghaaGreat

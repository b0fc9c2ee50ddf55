import Derived.Test.YtbbdhknagofghaaGreatWhl37
import Derived.StillTailTactics
set_option linter.all false
/-! Layer 7: the closures of all: what is in each item. -/
namespace Go.Proofs.YtbbdhknagofghaaGreat
open Go.RowKit
set_option maxHeartbeats 1000000 in
theorem none_tells {n j : Nat} {g : Nat → Bool} {J S : Nat → World → Prop} (i : Int) (W : World) (hJ : J j W) : Calls Tryz.prog 71 #[.int .i64 i] W (Told n g J S W j 0) := by
 have hJ' := hide hJ
 clear hJ
 go_enter Tryz.func71, Tryz.ntmps71
 go_wp2
 go_ret
 exact told_yes (runB_zero _ _) hJ'.out (Kp.refl _ _)
theorem enters_none : ∀ args w, (callFunc 71 args).run Tryz.prog w = .ok (.enter 71 args) w := enters_of Tryz.func71 (by kernel_rfl) rfl
theorem enters_all2 : ∀ args w, (callFunc 73 args).run Tryz.prog w = .ok (.enter 73 args) w := enters_of Tryz.func73 (by kernel_rfl) rfl
theorem enters_all3 : ∀ args w, (callFunc 75 args).run Tryz.prog w = .ok (.enter 75 args) w := enters_of Tryz.func75 (by kernel_rfl) rfl
theorem enters_all4 : ∀ args w, (callFunc 76 args).run Tryz.prog w = .ok (.enter 76 args) w := enters_of Tryz.func76 (by kernel_rfl) rfl
theorem enters_all5 : ∀ args w, (callFunc 78 args).run Tryz.prog w = .ok (.enter 78 args) w := enters_of Tryz.func78 (by kernel_rfl) rfl
/-- What the closures of all hold: the program's box, and yield's. -/
structure Held (A1 A2 A3 A4 A5 A6 A7 : Option Addr) (p : Pg) (c1 c2 c3 c4 c5 c6 c7 : Nat) (l bp bo : Nat) (W : World) : Prop where
 prog : W.heap[bp]? = some (.cells #[.slice A1 p.headers.length c1, .slice A2 p.metas.length c2, .slice A3 p.states.length c3, .slice A4 p.actions.length c4, .slice A5 p.tables.length c5, .slice A6 p.control.length c6, .slice A7 p.emit.length c7] 30)
 yield : W.heap[bo]? = some (.cells #[.func (.yield l) #[] #[]] 131)
theorem Held.kp {A1 A2 A3 A4 A5 A6 A7 : Option Addr} {p : Pg} {c1 c2 c3 c4 c5 c6 c7 : Nat} {l bp bo : Nat} {W W' : World} (h : Held A1 A2 A3 A4 A5 A6 A7 p c1 c2 c3 c4 c5 c6 c7 l bp bo W) (hk : Kp exI W W') : Held A1 A2 A3 A4 A5 A6 A7 p c1 c2 c3 c4 c5 c6 c7 l bp bo W' :=
 ⟨hk.same _ _ h.prog (fun cs t fr e => by cases e; rfl), hk.same _ _ h.yield (fun cs t fr e => by cases e; rfl)⟩
set_option maxRecDepth 100000 in
set_option maxHeartbeats 2000000 in
theorem heads_tells {l B B0 : Nat} {w0 : World} {xs : List It} {g : Nat → Bool} {J S : Nat → World → Prop} (hY : Yl l B xs g J S) (hown : OwnFrom B0 J) (hJK : ∀ k W, J k W → Below B w0 W) (A1 A2 A3 A4 A5 A6 A7 : Option Addr) (p : Pg) (c1 c2 c3 c4 c5 c6 c7 : Nat) (hP : PgS w0 B A1 A2 A3 A4 A5 A6 A7 p) (bp bo i j : Nat) (f : Hd) (hi : p.headers[i]? = some f)
  (W : World) (hB0 : B0 ≤ W.heap.size) (hh : Held A1 A2 A3 A4 A5 A6 A7 p c1 c2 c3 c4 c5 c6 c7 l bp bo W) (hx : ∀ k : Nat, k < f.fields.length → xs[j + k]? = some ⟨2, (i : Int), (k : Int), zSt⟩) (hJ : J j W) :
  Calls Tryz.prog 73 #[.int .i64 (i : Int), .pointer (some ⟨bp, 0, none⟩), .pointer (some ⟨bo, 0, none⟩)] W (Told xs.length g J S W j f.fields.length) := by
 have hPW := hP.below (hJK _ _ hJ)
 have hil := (List.getElem?_eq_some_iff.1 hi).1
 have hiz : (i : Int) < (p.headers.length : Int) := by omega
 have lst := hPW.headers.len
 obtain ⟨b, o, ecs, hA, hb, hel, hcell, B1, d1, rfl, hn, hF⟩ := hPW.headers.2 i f hi
 subst hA
 have lf := hF.len
 have x0 : W.cell? ⟨b, o + i * 2, none⟩ = some (.string f.name) := by simpa using hcell 0 _ rfl
 have x1 : W.cell? ⟨b, o + i * 2 + 1, none⟩ = some (.slice B1 f.fields.length d1) := hcell 1 _ rfl
 have hc := heap_cells hh.prog
 have hcy := heap_cells hh.yield
 obtain ⟨z0, z1, z2, z3, z4, z5, z6⟩ := row7 (w := W) (a := bp) fun i => hc i
 have y0 : W.cell? ⟨bo, 0, none⟩ = some (.func (.yield l) #[] #[]) := hcy 0
 have hM := hide (fun (W1 : World) (h : J j W1) => many_tells hY 2 (i : Int) f.fields.length j lf hx W1 h)
 have hJ1 := hide (own_step_none hown hJ (show Below W.heap.size W W.drew from (Below.refl _ _).drew))
 have hkd := hide (Kp.of_below exI (show Below W.heap.size W W.drew from (Below.refl _ _).drew))
 clear hcell hc hcy hJ hP hPW hF hh hi hx hJK
 go_enter Tryz.func73, Tryz.ntmps73
 go_wp2_with fail
 go_still_tail 9, (by kernel_rfl)
 change wpList _ _ _ _ _ W.drew
 generalize W.drew = W1 at hJ1 hkd ⊢
 go_wp2_with fail
 refine (hM.out W1 hJ1.out).mono ?_
 rintro e W2 ⟨rfl, h1, h2⟩
 replace h1 := hide h1
 replace h2 := hide h2
 go_wp2
 go_ret
 exact ⟨rfl, fun h => ⟨(h1.out h).1, hkd.out.trans (h1.out h).2⟩, h2.out⟩
end Go.Proofs.YtbbdhknagofghaaGreat

import Derived.Test.YtmfpbahifhndjaaGreatLow25
import Derived.Test.YtmfpbahifhndjaaGreatLow26
import Derived.Test.YtmfpbahifhndjaaGreatLow15
import Derived.Test.YtmfpbahifhndjaaGreatLow24
import Derived.RangeFuncBox
set_option linter.all false
/-! Layer 4: MayExpr, walked. -/
namespace Go.Proofs.YtmfpbahifhndjaaGreat
open Go.RowKit
theorem may_all (bk bf bm : Nat) (m : Int) (B : Nat) (e : Ex) : MayIs bk bf bm m B e := Ex.ind (P := fun e => MayIs bk bf bm m B e) (fun op lit head name hi lo args ih => may1_of op lit head name hi lo args ih) e
theorem kin_two {w1 W2 : World} {bm : Nat} {m : Int} (hW : (w1.alloc (.cells #[.map (some bm)] 158)).alloc (.cells #[.func (.func 98) #[] #[.pointer (some ⟨w1.heap.size, 0, none⟩), .pointer (some ⟨w1.heap.size + 1, 0, none⟩)]] 160) = W2)
  (hf : FmS w1 bm (formRows 26)) (hm : bm < w1.heap.size) (hz : w1.cell? ⟨0, 0, none⟩ = some (.int .i64 m)) : Kin w1.heap.size (w1.heap.size + 1) bm m (w1.heap.size + 2) W2 ∧ Below w1.heap.size w1 W2 ∧ W2.heap.size = w1.heap.size + 2 := by
 obtain ⟨x1, h1, s1, b1, c1, -⟩ := box1 w1 #[.map (some bm)] 158
 rw [h1] at hW
 obtain ⟨x2, h2, s2, b2, c2, -⟩ := box1 x1 #[.func (.func 98) #[] #[.pointer (some ⟨w1.heap.size, 0, none⟩), .pointer (some ⟨w1.heap.size + 1, 0, none⟩)]] 160
 rw [h2] at hW
 subst hW
 rw [s1] at c2
 refine ⟨⟨(b2.cell (p := ⟨w1.heap.size, 0, none⟩) (by show w1.heap.size < _; omega)).trans (c1 0), c2 0, (hf.below b1 hm).below b2 (by omega), (b2.cell (p := ⟨0, 0, none⟩) (by show 0 < _; omega)).trans ((b1.cell (p := ⟨0, 0, none⟩) (by show 0 < _; omega)).trans hz), by omega⟩, b1.trans (b2.mono (by omega)), by omega⟩
set_option maxRecDepth 100000 in
set_option maxHeartbeats 4000000 in
theorem mayexpr_any {m : Int} {B : Nat} (e : Ex) (cs : List Value) (w : World) (hB : B ≤ w.heap.size) (h0 : 0 < B)
  (hz : w.cell? ⟨0, 0, none⟩ = some (.int .i64 m)) (he : rEx w B cs e) :
  Calls Tryz.prog 79 #[.agg cs.toArray] w fun r w' => r = .returned (.bool (mayE e)) ∧ Below w.heap.size w w' := by
 have he' := he
 obtain ⟨op, lit, head, name, hi, lo, args⟩ := e
 obtain ⟨A, cap, rfl, -, -, -, -, -, -, hs⟩ := RE.inv he
 have hla := hs.len
 obtain ⟨wa, hwa, hsa, hba, hca, -⟩ := box1 w #[.int .u8 op, .int .i64 lit.1, .int .u64 lit.2.1, .int .u64 lit.2.2, .string head, .string name, .int .i64 hi, .int .i64 lo, .slice A args.length cap] 65
 have eg := enters_may1
 have hX := hide (fun (W : World) (bk bf bm B' : Nat) (hb : Below w.heap.size w W) (h1 : B ≤ B') (h2 : B' ≤ W.heap.size) (hk : Kin bk bf bm m B' W) => may_all bk bf bm m B' (.mk op lit head name hi lo args) _ W 16 (by omega) h2 hk (sta_ex.more (sta_ex.keep he' fun q hq => (hb.mono hB).cell hq) h1))
 rw [mayE_eq]
 generalize mayN (.mk op lit head name hi lo args) 16 = z at hX ⊢
 have hza : wa.cell? ⟨0, 0, none⟩ = some (.int .i64 m) := (hba.cell (p := ⟨0, 0, none⟩) (by show 0 < _; omega)).trans hz
 have hfo : Calls Tryz.prog 97 #[] wa fun e w1 => e = .returned (.map (some wa.heap.size)) ∧ FmS w1 wa.heap.size (formRows 26) ∧ Below wa.heap.size wa w1 ∧ w.heap.size < w1.heap.size ∧ wa.heap.size < w1.heap.size ∧ w1.cell? ⟨0, 0, none⟩ = some (.int .i64 m) ∧ ∀ i, w1.cell? ⟨w.heap.size, i, none⟩ = wa.cell? ⟨w.heap.size, i, none⟩ :=
  (forms_any wa).mono (by
   rintro e w1 ⟨rfl, hf1, hb1⟩
   have hs1 := hb1.size
   have hlt : wa.heap.size < w1.heap.size := (Array.getElem?_eq_some_iff.1 hf1).1
   exact ⟨rfl, hf1, hb1, by omega, hlt, (hb1.cell (p := ⟨0, 0, none⟩) (by show 0 < _; omega)).trans hza, fun i => hb1.cell (p := ⟨w.heap.size, i, none⟩) (by show w.heap.size < _; omega)⟩)
 simp only [hca] at hfo
 replace hfo := hide hfo
 clear hs he he' hz
 show Calls _ _ #[.agg #[.int .u8 op, .int .i64 lit.1, .int .u64 lit.2.1, .int .u64 lit.2.2, .string head, .string name, .int .i64 hi, .int .i64 lo, .slice A args.length cap]] _ _
 go_enter Tryz.func79, Tryz.ntmps79
 go_wp2_with (go_at_call 97; refine hfo.out.mono ?_; rintro e w1 ⟨rfl, hf1, hb1, hl1, hl2, hz1, gk⟩; have u0 := gk 0; have u1 := gk 1; have u2 := gk 2; have u3 := gk 3; have u4 := gk 4; have u5 := gk 5; have u6 := gk 6; have u7 := gk 7; have u8 := gk 8; replace hf1 := hide hf1; replace hb1 := hide hb1)
 rw [hsa] at hl2
 have hf2 := hf1.out
 rw [hsa] at hf2
 obtain ⟨hk, hb2, hs2⟩ := kin_two rfl hf2 hl2 hz1
 have hbW := hba.trans ((hb1.out.mono (by omega)).trans (hb2.mono (by omega)))
 refine (hX.out _ _ _ _ (w1.heap.size + 2) hbW (by omega) (by omega) hk).mono ?_
 rintro e w2 ⟨rfl, hb3⟩
 replace hbW := hide (hbW.trans (hb3.mono (by omega)))
 clear hk hb2 hb3 hs2
 go_wp2
 go_ret
 exact ⟨rfl, hbW.out⟩
end Go.Proofs.YtmfpbahifhndjaaGreat
/-! Layer 8: Of. -/
namespace Go.Proofs.YtmfpbahifhndjaaGreat
open Go.RowKit
theorem set_obj {W : World} {a i : Nat} {cs : Array Value} {T : TypeId} (h : W.heap[a]? = some (.cells cs T)) (v : Value) : (W.setCell ⟨a, i, none⟩ v).heap[a]? = some (.cells (cs.setIfInBounds i v) T) := by
 obtain ⟨hlt, hk⟩ := Array.getElem?_eq_some_iff.1 h
 show (W.heap.modify a _)[a]? = _
 rw [Array.getElem?_eq_getElem (by rw [Array.size_modify]; exact hlt), Array.getElem_modify_self, hk]
 simp [Addr.spot]
theorem obj_cells {W : World} {k : Nat} {cs : Array Value} {t : TypeId} (h : W.heap[k]? = some (.cells cs t)) : ∀ i, W.cell? ⟨k, i, none⟩ = cs[i]? := by
 intro i
 simp [World.cell?, h]
theorem set3_obj {W : World} {a : Nat} {c0 c1 c2 : Value} {T : TypeId} (h : W.heap[a]? = some (.cells #[c0, c1, c2] T)) (u v x : Value) : (((W.setCell ⟨a, 0, none⟩ u).setCell ⟨a, 1, none⟩ v).setCell ⟨a, 2, none⟩ x).heap[a]? = some (.cells #[u, v, x] T) := by
 have h1 := set_obj (i := 0) h u
 have h2 := set_obj (i := 1) h1 v
 have h3 := set_obj (i := 2) h2 x
 simpa using h3
theorem grown_set {W X : World} {g i : Nat} (h : W.grownBy X (some g)) (v : Value) : W.grownBy (X.setCell ⟨g, i, none⟩ v) (some g) :=
 ⟨h.os, h.tape, h.output, Nat.le_trans h.size (KeepsWalks.setCell X _ v).size, fun k hk hne => (Below.heap_setCell X ⟨g, i, none⟩ v k (fun e => hne (by rw [e]))).trans (h.block k hk hne)⟩
theorem grown_far {W X : World} {g a i : Nat} (h : W.grownBy X (some g)) (ha : W.heap.size ≤ a) (v : Value) : W.grownBy (X.setCell ⟨a, i, none⟩ v) (some g) :=
 ⟨h.os, h.tape, h.output, Nat.le_trans h.size (KeepsWalks.setCell X _ v).size, fun k hk hne => (Below.heap_setCell X ⟨a, i, none⟩ v k (fun e => by simp only at e; omega)).trans (h.block k hk hne)⟩
theorem grown_below {w W X : World} {g : Nat} (hb : Below w.heap.size w W) (h : W.grownBy X (some g)) : w.grownBy X (some g) :=
 ⟨h.os.trans hb.os, h.tape.trans hb.tape, h.output.trans hb.output, Nat.le_trans hb.size h.size, fun k hk hne => (h.block k (Nat.lt_of_lt_of_le hk hb.size) hne).trans (hb.block k hk)⟩
theorem grown_of_below {w W : World} {g : Nat} (hb : Below w.heap.size w W) : w.grownBy W (some g) :=
 ⟨hb.os, hb.tape, hb.output, hb.size, fun k hk _ => hb.block k hk⟩
theorem below_of_grown {B : Nat} {w W X : World} {g : Nat} (hb : Below B w W) (h : W.grownBy X (some g)) (hg : B ≤ g) (hB : B ≤ W.heap.size) : Below B w X :=
 ⟨h.os.trans hb.os, h.tape.trans hb.tape, h.output.trans hb.output, Nat.le_trans hb.size h.size, fun k hk => (h.block k (by omega) (fun e => by injection e; omega)).trans (hb.block k hk)⟩
theorem obj_kept {w W : World} {B g : Nat} {o : Obj} (h : w.heap[g]? = some o) (hb : Below B w W) (hg : g < B) : W.heap[g]? = some o := (hb.block g hg).trans h
theorem obj_other {W : World} {a i k : Nat} {o : Obj} (v : Value) (h : W.heap[k]? = some o) (hne : k ≠ a) : (W.setCell ⟨a, i, none⟩ v).heap[k]? = some o :=
 (Below.heap_setCell W ⟨a, i, none⟩ v k hne).trans h
set_option maxRecDepth 100000 in
set_option maxHeartbeats 4000000 in
theorem caught_of (a b c d : Option Addr) (r : Rs Unit) (tb : Nat) (o : Obj) (w : World) (htb : tb < w.heap.size)
  (hBy : ∀ W, Below w.heap.size w W → Calls Tryz.prog 77 #[.pointer a, .pointer b, .pointer c, .pointer d] W fun e w' => e = endU r ∧ W.grownBy w' (some tb) ∧ w'.heap[tb]? = some o) :
  Calls Tryz.prog 76 #[.func (.func 77) #[] #[.pointer a, .pointer b, .pointer c, .pointer d]] w fun e w' => e = .returned (.int .i64 (errN r)) ∧ w.grownBy w' (some tb) ∧ w'.heap[tb]? = some o := by
 have hmf : ∀ (fn : Fn) (first cap : Array Value) (w : World), (Instr.makeFunc fn first cap).run Tryz.prog w = .ok (.func fn first cap) w := fun _ _ _ _ => rfl
 obtain ⟨wb, hwb, hsb, hbb, hcb, hfb⟩ := box1 w #[.int .i64 0] 66
 have x0 : wb.cell? ⟨w.heap.size, 0, none⟩ = some (.int .i64 0) := hcb 0
 have hf0 := hfb 0
 have hl1 : w.heap.size < wb.heap.size := by omega
 have hB := hide (hBy wb hbb)
 clear hcb hfb hBy
 replace hsb := hide hsb
 have hob : ∀ w3 : World, wb.grownBy w3 (some tb) → w3.heap[w.heap.size]? = wb.heap[w.heap.size]? := fun w3 hg => hg.block _ hl1 (fun e => by injection e; omega)
 cases r with
 | ok u =>
  replace hB := hide (show Calls Tryz.prog _ _ wb fun e w' => e = .returned (.tuple #[]) ∧ wb.grownBy w' (some tb) ∧ w'.heap[tb]? = some o from hB.out)
  go_enter_defers Tryz.func76, Tryz.ntmps76
  go_wp2_with (go_at_call 77; refine hB.out.mono ?_; rintro e w3 ⟨rfl, hg3, ho3⟩; have y0 := (World.cell?_of_block (a := ⟨w.heap.size, 0, none⟩) (hob w3 hg3)).trans x0; have y1 : w3.frozen? ⟨w.heap.size, 0, none⟩ = false := (World.frozen?_of_block (a := ⟨w.heap.size, 0, none⟩) (hob w3 hg3)).trans hf0; have q3 := Nat.lt_of_lt_of_le hl1 hg3.size)
  refine leaves_cons (f := 96) (args := #[.pointer (some ⟨w.heap.size, 0, none⟩)]) (by simp) (by simp [go_sem]) ?_
  refine (catch_idle ⟨w.heap.size, 0, none⟩ _).mono ?_
  rintro e u' w'' ⟨rfl, rfl, rfl⟩
  have hlt := q3
  have hcell := y0
  simp [Leaves, settle, results, Tryz.results76, go_sem, hcell, errN]
  exact ⟨grown_far (grown_below hbb hg3) (Nat.le_refl _) _, obj_other _ ho3 (by omega)⟩
 | error n =>
  replace hB := hide (show Calls Tryz.prog _ _ wb fun e w' => e = noE n ∧ wb.grownBy w' (some tb) ∧ w'.heap[tb]? = some o from hB.out)
  go_enter_defers Tryz.func76, Tryz.ntmps76
  go_wp2_with (go_at_call 77; refine hB.out.mono ?_; rintro e w3 ⟨rfl, hg3, ho3⟩; have y0 := (World.cell?_of_block (a := ⟨w.heap.size, 0, none⟩) (hob w3 hg3)).trans x0; have y1 : w3.frozen? ⟨w.heap.size, 0, none⟩ = false := (World.frozen?_of_block (a := ⟨w.heap.size, 0, none⟩) (hob w3 hg3)).trans hf0; have q3 := Nat.lt_of_lt_of_le hl1 hg3.size)
  have hcell := y0
  refine leaves_cons (f := 96) (args := #[.pointer (some ⟨w.heap.size, 0, none⟩)]) (by simp) (by simp [go_sem]) ?_
  refine (catch_errno ⟨w.heap.size, 0, none⟩ 0 n [] _ hcell y1).mono ?_
  rintro e u' w'' ⟨rfl, rfl, rfl⟩
  simp [Leaves, settle, results, Tryz.results76, go_sem, hcell, errN]
  exact ⟨grown_far (grown_below hbb hg3) (Nat.le_refl _) _, obj_other _ ho3 (by omega)⟩
set_option maxRecDepth 100000 in
set_option maxHeartbeats 8000000 in
theorem tof1c_any (A1 A2 A3 A4 A5 A6 A7 : Option Addr) (p : Pg) (c1 c2 c3 c4 c5 c6 c7 : Nat) {m act : Int} {B : Nat} (hm : wideP p = true) (e : Ex) (cs : List Value) (ge gp ga gt : Nat) (w : World) (hB : B ≤ w.heap.size) (h0 : 0 < B) (hz : w.cell? ⟨0, 0, none⟩ = some (.int .i64 m)) (hP : PgS w B A1 A2 A3 A4 A5 A6 A7 p) (hr : rEx w B cs e)
  (hge : ∀ i, w.cell? ⟨ge, i, none⟩ = cs.toArray[i]?) (hgp : ∀ i, w.cell? ⟨gp, i, none⟩ = (#[.slice A1 p.headers.length c1, .slice A2 p.metas.length c2, .slice A3 p.states.length c3, .slice A4 p.actions.length c4, .slice A5 p.tables.length c5, .slice A6 p.control.length c6, .slice A7 p.emit.length c7] : Array Value)[i]?) (hga : w.cell? ⟨ga, 0, none⟩ = some (.int .i64 act)) (hgt : w.heap[gt]? = some (.cells #[.int .i64 0, .bool false, .bool false] 107)) :
  Calls Tryz.prog 77 #[.pointer (some ⟨ge, 0, none⟩), .pointer (some ⟨gp, 0, none⟩), .pointer (some ⟨ga, 0, none⟩), .pointer (some ⟨gt, 0, none⟩)] w fun z w' => z = endU (unR (askR p act e)) ∧ w.grownBy w' (some gt) ∧ w'.heap[gt]? = some (.cells (tyC (ofE (askR p act e)).1) 107) := by
 have hM := hide (mayexpr_any e cs w hB h0 hz hr)
 have hX0 := hide (fun (he : allE e = true) (W : World) (hW : Below w.heap.size w W) => of_wide A1 A2 A3 A4 A5 A6 A7 p c1 c2 c3 c4 c5 c6 c7 act B hm e he cs W (Nat.le_trans hB hW.size) (hP.below (hW.mono hB)) (sta_ex.keep hr fun q hq => (hW.mono hB).cell hq))
 have hl1 : ge < w.heap.size := by
  have := hge 0
  obtain ⟨op, lit, head, name, hi, lo, args⟩ := e
  obtain ⟨A, cap, rfl, -⟩ := RE.inv hr
  obtain ⟨o, ho, -⟩ := cells_of_cell (this.trans rfl)
  exact (Array.getElem?_eq_some_iff.1 ho).1
 have hl2 : gp < w.heap.size := by
  obtain ⟨o, ho, -⟩ := cells_of_cell ((hgp 0).trans rfl)
  exact (Array.getElem?_eq_some_iff.1 ho).1
 have hl3 : ga < w.heap.size := by
  obtain ⟨o, ho, -⟩ := cells_of_cell hga
  exact (Array.getElem?_eq_some_iff.1 ho).1
 have hl4 : gt < w.heap.size := (Array.getElem?_eq_some_iff.1 hgt).1
 have hv := hide (show askR p act e = if mayE e then ofR p act e else .error 2 from rfl)
 have hma := hide (show mayE e = true → allE e = true from fun h => by simp only [mayE, Bool.and_eq_true] at h; exact h.2)
 generalize ofR p act e = r at hv hX0
 generalize askR p act e = R at hv ⊢
 generalize mayE e = me at hM hv hma
 generalize hae : allE e = ae at hX0 hma
 clear hP hz hae
 obtain ⟨op, lit, head, name, hi, lo, args⟩ := e
 obtain ⟨A, cap, rfl, -⟩ := RE.inv hr
 clear hr
 replace hX0 : Hid (ae = true → ∀ W, Below w.heap.size w W → Calls Tryz.prog 80 #[.agg #[.slice A1 p.headers.length c1, .slice A2 p.metas.length c2, .slice A3 p.states.length c3, .slice A4 p.actions.length c4, .slice A5 p.tables.length c5, .slice A6 p.control.length c6, .slice A7 p.emit.length c7, .int .i64 act], .agg #[.int .u8 op, .int .i64 lit.1, .int .u64 lit.2.1, .int .u64 lit.2.2, .string head, .string name, .int .i64 hi, .int .i64 lo, .slice A args.length cap]] W fun z w' => z = endR r ∧ Below W.heap.size W w') := hX0
 replace hM : Hid (Calls Tryz.prog 79 #[.agg #[.int .u8 op, .int .i64 lit.1, .int .u64 lit.2.1, .int .u64 lit.2.2, .string head, .string name, .int .i64 hi, .int .i64 lo, .slice A args.length cap]] w fun z w' => z = .returned (.bool me) ∧ Below w.heap.size w w') := hM
 obtain ⟨e0, e1, e2, e3, e4, e5, e6, e7, e8⟩ := row9 hge
 obtain ⟨u0, u1, u2, u3, u4, u5, u6⟩ := row7 hgp
 have hc0 := obj_cells hgt
 obtain ⟨t0, t1, t2⟩ := row3 hc0
 have hfz : ∀ i, w.frozen? ⟨gt, i, none⟩ = false := fun i => by simp [World.frozen?, hgt]
 have f0 := hfz 0
 have f1 := hfz 1
 have f2 := hfz 2
 replace hgt := hide hgt
 clear hge hgp hc0 hfz
 cases me with
 | false =>
  have hR := hide (hv.out.trans (if_neg Bool.false_ne_true))
  go_enter Tryz.func77, Tryz.ntmps77
  go_wp2_with (first | (go_at_call 79; with_reducible refine hM.out.mono ?_; rintro e w1 ⟨rfl, hb1⟩) | (go_at_call 78; with_reducible refine (ask_no _ _).mono ?_; rintro e w' ⟨rfl, rfl⟩))
  exact ⟨rfl, by rw [hR.out]; rfl, grown_of_below hb1, by rw [hR.out]; exact obj_kept hgt.out hb1 hl4⟩
 | true =>
  have hX := hide (hX0.out (hma.out rfl))
  have hR := hide (hv.out.trans (if_pos rfl))
  clear hX0 hma hv
  cases r with
  | error n7 =>
   have hX1 := hide (fun (W : World) (hW : Below w.heap.size w W) => (show Calls Tryz.prog _ _ W fun e w' => e = noE n7 ∧ Below W.heap.size W w' from hX.out W hW))
   clear hX
   go_enter Tryz.func77, Tryz.ntmps77
   go_wp2_with (first | (go_at_call 79; with_reducible refine hM.out.mono ?_; rintro e w1 ⟨rfl, hb1⟩; have kb1 := bcell' hb1) | (go_at_call 78; with_reducible refine (ask_yes _ _).mono ?_; rintro e w' ⟨rfl, rfl⟩) | (go_at_call 80; with_reducible refine (hX1.out _ hb1).mono ?_; rintro e w3 ⟨rfl, hb3⟩))
   have hb13 := hb1.trans (hb3.mono hb1.size)
   exact ⟨rfl, by rw [hR.out]; rfl, grown_of_below hb13, by rw [hR.out]; exact obj_kept hgt.out hb13 hl4⟩
  | ok t =>
   obtain ⟨tw, tr, tf⟩ := t
   have hX1 := hide (fun (W : World) (hW : Below w.heap.size w W) => (show Calls Tryz.prog _ _ W fun e w' => e = .returned (.agg #[.int .i64 tw, .bool tr, .bool tf]) ∧ Below W.heap.size W w' from hX.out W hW))
   clear hX
   go_enter Tryz.func77, Tryz.ntmps77
   go_wp2_with (first | (go_at_call 79; with_reducible refine hM.out.mono ?_; rintro e w1 ⟨rfl, hb1⟩; have kb1 := bcell' hb1) | (go_at_call 78; with_reducible refine (ask_yes _ _).mono ?_; rintro e w' ⟨rfl, rfl⟩) | (go_at_call 80; with_reducible refine (hX1.out _ hb1).mono ?_; rintro e w3 ⟨rfl, hb3⟩; have hb13 := hb1.trans (hb3.mono hb1.size); have kb3 := bcell' hb13; have q3 := Nat.lt_of_lt_of_le hl4 hb13.size))
   (try simp only [Exit.inBlock, Exit.then])
   refine bodyPost_end (results_none rfl _ _ _) rfl ?_
   exact ⟨by rw [hR.out]; rfl, grown_set (grown_set (grown_set (grown_of_below hb13) _) _) _, by rw [hR.out]; exact set3_obj (obj_kept hgt.out hb13 hl4) _ _ _⟩
set_option maxRecDepth 100000 in
set_option maxHeartbeats 8000000 in
theorem tOf_any (A1 A2 A3 A4 A5 A6 A7 : Option Addr) (p : Pg) (c1 c2 c3 c4 c5 c6 c7 : Nat) {m act : Int} {B : Nat} (hm : wideP p = true) (e : Ex) (cs : List Value) (w : World) (hB : B ≤ w.heap.size) (h0 : 0 < B) (hz : w.cell? ⟨0, 0, none⟩ = some (.int .i64 m)) (hP : PgS w B A1 A2 A3 A4 A5 A6 A7 p) (hr : rEx w B cs e) :
  Calls Tryz.prog 49 #[.agg #[.slice A1 p.headers.length c1, .slice A2 p.metas.length c2, .slice A3 p.states.length c3, .slice A4 p.actions.length c4, .slice A5 p.tables.length c5, .slice A6 p.control.length c6, .slice A7 p.emit.length c7], .int .i64 act, .agg cs.toArray] w fun z w' => z = .returned (.tuple #[.agg (tyC (ofE (askR p act e)).1), .int .i64 (ofE (askR p act e)).2]) ∧ Below w.heap.size w w' := by
 have hmf : ∀ (fn : Fn) (first cap : Array Value) (w : World), (Instr.makeFunc fn first cap).run Tryz.prog w = .ok (.func fn first cap) w := fun _ _ _ _ => rfl
 obtain ⟨op, lit, head, name, hi, lo, args⟩ := e
 have hr' := hr
 obtain ⟨A, cap, rfl, -⟩ := RE.inv hr'
 clear hr'
 show Calls _ _ #[.agg #[.slice A1 p.headers.length c1, .slice A2 p.metas.length c2, .slice A3 p.states.length c3, .slice A4 p.actions.length c4, .slice A5 p.tables.length c5, .slice A6 p.control.length c6, .slice A7 p.emit.length c7], .int .i64 act, .agg #[.int .u8 op, .int .i64 lit.1, .int .u64 lit.2.1, .int .u64 lit.2.2, .string head, .string name, .int .i64 hi, .int .i64 lo, .slice A args.length cap]] _ _
 obtain ⟨wp, hwp, hsp, hbp, hcp, -⟩ := box1 w #[.slice A1 p.headers.length c1, .slice A2 p.metas.length c2, .slice A3 p.states.length c3, .slice A4 p.actions.length c4, .slice A5 p.tables.length c5, .slice A6 p.control.length c6, .slice A7 p.emit.length c7] 76
 obtain ⟨wa, hwa, hsa, hba, hca, -⟩ := box1 wp #[.int .i64 act] 3
 obtain ⟨we, hwe, hse, hbe, hce, -⟩ := box1 wa #[.int .u8 op, .int .i64 lit.1, .int .u64 lit.2.1, .int .u64 lit.2.2, .string head, .string name, .int .i64 hi, .int .i64 lo, .slice A args.length cap] 65
 obtain ⟨wt, hwt, hst, hbt, hct, hft⟩ := box1 we #[.int .i64 0, .bool false, .bool false] 107
 have hEt : Below wt.heap.size wt wt := Below.refl _ _
 have hEe : Below we.heap.size we wt := hbt.trans (hEt.mono (by omega))
 have hEa : Below wa.heap.size wa wt := hbe.trans (hEe.mono (by omega))
 have hEp : Below wp.heap.size wp wt := hba.trans (hEa.mono (by omega))
 have hw := hide (hbp.trans (hEp.mono (by omega)))
 have cp := fun i => (hEp.cell (p := ⟨w.heap.size, i, none⟩) (by show w.heap.size < _; omega)).trans (hcp i)
 have ca := (hEa.cell (p := ⟨wp.heap.size, 0, none⟩) (by show wp.heap.size < _; omega)).trans (hca 0)
 have ce := fun i => (hEe.cell (p := ⟨wa.heap.size, i, none⟩) (by show wa.heap.size < _; omega)).trans (hce i)
 have ht : wt.heap[we.heap.size]? = some (.cells #[.int .i64 0, .bool false, .bool false] 107) := by rw [← hwt]; exact World.alloc_heap_new we _
 have hC := hide (caught_of (some ⟨wa.heap.size, 0, none⟩) (some ⟨w.heap.size, 0, none⟩) (some ⟨wp.heap.size, 0, none⟩) (some ⟨we.heap.size, 0, none⟩) (unR (askR p act (.mk op lit head name hi lo args))) we.heap.size (.cells (tyC (ofE (askR p act (.mk op lit head name hi lo args))).1) 107) wt (by omega) fun W hW =>
  tof1c_any A1 A2 A3 A4 A5 A6 A7 p c1 c2 c3 c4 c5 c6 c7 (m := m) (act := act) (B := B) hm (.mk op lit head name hi lo args) _ wa.heap.size w.heap.size wp.heap.size we.heap.size W (by have := hW.size; have := hw.out.size; omega) h0 ((hW.cell (p := ⟨0, 0, none⟩) (by show 0 < _; omega)).trans ((hw.out.cell (p := ⟨0, 0, none⟩) (by show 0 < _; omega)).trans hz)) (hP.below ((hw.out.trans (hW.mono (by omega))).mono hB)) (sta_ex.keep hr fun q hq => ((hw.out.trans (hW.mono (by omega))).mono hB).cell hq)
   (fun i => (hW.cell (p := ⟨wa.heap.size, i, none⟩) (by show wa.heap.size < _; omega)).trans (ce i)) (fun i => (hW.cell (p := ⟨w.heap.size, i, none⟩) (by show w.heap.size < _; omega)).trans (cp i)) ((hW.cell (p := ⟨wp.heap.size, 0, none⟩) (by show wp.heap.size < _; omega)).trans ca) ((hW.block _ (by omega)).trans ht))
 rw [errN_un] at hC
 generalize ofE (askR p act (.mk op lit head name hi lo args)) = R at hC ⊢
 obtain ⟨⟨tw, tr, tf⟩, n⟩ := R
 simp only [tyC] at hC ⊢
 have hl4 : we.heap.size < wt.heap.size := by omega
 have hlw : w.heap.size ≤ we.heap.size := by omega
 have hlt : w.heap.size ≤ wt.heap.size := by omega
 simp only [hsa, hse, hsp] at hC hl4 hlw
 clear hr hP hz hcp hca hce hct hft cp ca ce ht hEt hEe hEa hEp hbp hba hbe hbt
 replace hst := hide hst
 go_enter Tryz.func49, Tryz.ntmps49
 go_wp2_with (go_at_call 76; refine hC.out.mono ?_; rintro e w3 ⟨rfl, hg3, ho3⟩; have hc3 := obj_cells ho3; obtain ⟨t0, t1, t2⟩ := row3 hc3; have f0 : w3.frozen? ⟨w.heap.size + 1 + 1 + 1, 0, none⟩ = false := (by simp [World.frozen?, ho3]); have f1 : w3.frozen? ⟨w.heap.size + 1 + 1 + 1, 1, none⟩ = false := (by simp [World.frozen?, ho3]); have f2 : w3.frozen? ⟨w.heap.size + 1 + 1 + 1, 2, none⟩ = false := (by simp [World.frozen?, ho3]); have q3 := Nat.lt_of_lt_of_le hl4 hg3.size)
 refine bodyPost_ret (v := .tuple #[.agg #[.int .i64 tw, .bool tr, .bool tf], .int .i64 n]) (by simp [results, Tryz.results49, go_sem, t0, t1, t2]) rfl ⟨rfl, ?_⟩
 exact below_set3 (below_of_grown hw.out hg3 hlw hlt) hlw _ _ _
end Go.Proofs.YtmfpbahifhndjaaGreat

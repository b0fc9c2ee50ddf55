import Derived.Test.YtbbdhknagofghaaGreatWhl19
import Derived.Test.YtbbdhknagofghaaGreatWhl24
import Derived.Test.YtbbdhknagofghaaGreatWhl35
import Derived.Deep.RegionHeld3
set_option linter.all false
/-! Layer 8: the page's examples. -/
namespace Go.Proofs.YtbbdhknagofghaaGreat
open Go.RowKit
def kE (x : Int × Int) : Ex := .mk x.1 (0, 0, x.2) strE strE 0 0 []
def kX (x : Int × Int) : List Value := exC x.1 (0, 0, x.2) strE strE 0 0 none 0 0
def zP : Pg := ⟨[], [], [], [], [], [], []⟩
theorem kE_r (w : World) (B : Nat) {x : Int × Int} (h : u8 x.1 ∧ u64 x.2) : rEx w B (kX x) (kE x) :=
 RE.intro (args := []) ⟨h.1, ⟨by show i64 0; unfold i64; omega, by show u64 0; unfold u64; omega, h.2⟩, by decide, by decide, by unfold i64; omega, by unfold i64; omega⟩ (by simp [depthL, sm]) Sl.nil_
theorem kArgs {W : World} {g : Nat} (xs : List (Int × Int)) (hx : ∀ x ∈ xs, u8 x.1 ∧ u64 x.2) (hn : xs.length ≤ 2) (hg : g < W.heap.size) (hc : ∀ (i : Nat) (u : Value), (xs.flatMap kX)[i]? = some u → W.cell? ⟨g, i, none⟩ = some u) : Sl 9 rEx W W.heap.size (some ⟨g, 0, none⟩) (xs.map kE) := by
 refine ⟨by simp [maxLen]; omega, fun i e he => ?_⟩
 rw [List.getElem?_map] at he
 cases hxi : xs[i]? with
 | none => rw [hxi] at he; cases he
 | some x =>
  rw [hxi] at he
  injection he with he
  subst he
  exact ⟨g, 0, kX x, rfl, hg, rfl, fun j u hu => by
   have := hc _ u (flatMap_get (k := 9) (fun _ => rfl) xs i j x u hxi hu)
   rw [Nat.zero_add]; exact this, kE_r W _ (hx x (List.mem_of_getElem? hxi))⟩
theorem depth_k (xs : List (Int × Int)) : depthL (xs.map kE) < sm := by
 have : depthL (xs.map kE) ≤ 1 := by
  induction xs with
  | nil => simp [depthL]
  | cons x l ih => simp only [List.map_cons, depthL, kE, depthE] at ih ⊢; omega
 unfold sm; omega
theorem zP_s (w : World) (B : Nat) : PgS w B none none none none none none none zP := ⟨Sl.nil_, Sl.nil_, Sl.nil_, Sl.nil_, Sl.nil_, Sl.nil_, Sl.nil_⟩
theorem ofK {m : Int} (W : World) (g cap : Nat) (op : Int) (xs : List (Int × Int)) (hop : u8 op) (hx : ∀ x ∈ xs, u8 x.1 ∧ u64 x.2) (hn : xs.length ≤ 2) (hg : g < W.heap.size) (hc : ∀ (i : Nat) (u : Value), (xs.flatMap kX)[i]? = some u → W.cell? ⟨g, i, none⟩ = some u) (hz : W.cell? ⟨0, 0, none⟩ = some (.int .i64 m)) (R : Ty × Int) (hr : ofE (askR zP (-1) (.mk op (0, 0, 0) strE strE 0 0 (xs.map kE))) = R) :
  Calls Tryz.prog 16 #[.agg #[.slice none 0 0, .slice none 0 0, .slice none 0 0, .slice none 0 0, .slice none 0 0, .slice none 0 0, .slice none 0 0], .int .i64 (-1), .agg #[.int .u8 op, .int .i64 0, .int .u64 0, .int .u64 0, .string (ByteArray.mk #[]), .string (ByteArray.mk #[]), .int .i64 0, .int .i64 0, .slice (some ⟨g, 0, none⟩) xs.length cap]] W fun z w' => z = .returned (.tuple #[.agg #[.int .i64 R.1.w, .bool R.1.truth, .bool R.1.free], .int .i64 R.2]) ∧ Below W.heap.size W w' := by
 subst hr
 have h0 : 0 < W.heap.size := World.block_lt_of_cell? (u := .int .i64 m) (a := ⟨0, 0, none⟩) W hz
 have := tOf_any none none none none none none none zP 0 0 0 0 0 0 0 (m := m) (act := -1) (B := W.heap.size) rfl (.mk op (0, 0, 0) strE strE 0 0 (xs.map kE)) _ W (Nat.le_refl _) h0 hz (zP_s W _) (RE.intro (A := some ⟨g, 0, none⟩) (cap := cap) ⟨hop, ⟨by show i64 0; unfold i64; omega, by show u64 0; unfold u64; omega, by show u64 0; unfold u64; omega⟩, by decide, by decide, by unfold i64; omega, by unfold i64; omega⟩ (depth_k xs) (kArgs xs hx hn hg hc))
 simpa [tyC, exC, strE, zP] using this
set_option maxHeartbeats 1000000 in
theorem lit15 (n : Int) (W : World) : Calls Tryz.prog 15 #[.int .u64 n] W fun e w' => e = .returned (.agg #[.int .u8 1, .int .i64 0, .int .u64 0, .int .u64 n, .string (ByteArray.mk #[]), .string (ByteArray.mk #[]), .int .i64 0, .int .i64 0, .slice none 0 0]) ∧ Below W.heap.size W w' := by
 go_enter Tryz.func15, Tryz.ntmps15
 go_wp2
 exact bodyPost_ret (v := .agg #[.int .u8 1, .int .i64 0, .int .u64 0, .int .u64 n, .string (ByteArray.mk #[]), .string (ByteArray.mk #[]), .int .i64 0, .int .i64 0, .slice none 0 0]) (by simp [results, Tryz.results15, go_sem]) rfl ⟨rfl, (Below.refl _ _).alloc (Nat.le_refl _) _⟩
theorem k1 : ofE (askR zP (-1) (.mk 12 (0, 0, 0) strE strE 0 0 ([(5, 0), (1, 1)].map kE))) = (⟨9, false, false⟩, 0) := by
 unfold askR; rw [if_pos (by decide +kernel)]; rfl
theorem k2 : ofE (askR zP (-1) (.mk 19 (0, 0, 0) strE strE 0 0 ([(1, 1), (1, 2)].map kE))) = (⟨0, false, false⟩, 10) := by
 unfold askR; rw [if_pos (by decide +kernel)]; rfl
theorem k3 : ofE (askR zP (-1) (.mk 9 (0, 0, 0) strE strE 0 0 ([(5, 0)].map kE))) = (⟨0, false, false⟩, 9) := by
 unfold askR; rw [if_pos (by decide +kernel)]; rfl
theorem zalloc {m : Value} {W : World} (o : Obj) (h : W.cell? ⟨0, 0, none⟩ = some m) : (W.alloc o).cell? ⟨0, 0, none⟩ = some m := (World.cell?_alloc_past _ _ _ (World.block_lt_of_cell? W _ h)).trans h
theorem zdrew {m : Value} {W : World} (h : W.cell? ⟨0, 0, none⟩ = some m) : W.drew.cell? ⟨0, 0, none⟩ = some m := h
theorem calloc {W : World} {g : Nat} {l : List Value} (o : Obj) (h : ∀ (i : Nat) (u : Value), l[i]? = some u → W.cell? ⟨g, i, none⟩ = some u) : ∀ (i : Nat) (u : Value), l[i]? = some u → (W.alloc o).cell? ⟨g, i, none⟩ = some u := fun i u hu => (World.cell?_alloc_past _ _ _ (World.block_lt_of_cell? W _ (h i u hu))).trans (h i u hu)
theorem cnew {W : World} {cs : Array Value} {t : TypeId} {l : List Value} (hl : cs.toList = l) : ∀ (i : Nat) (u : Value), l[i]? = some u → (W.alloc (.cells cs t)).cell? ⟨W.heap.size, i, none⟩ = some u := fun i u hu => by
 rw [World.cell?_alloc_at _ _ _ _ rfl, ← hl, Array.getElem?_toList] at *
 exact hu
theorem cnew' {W : World} {cs : Array Value} {t : TypeId} {l : List Value} {n : Nat} (hl : cs.toList = l) (hn : n = W.heap.size) : ∀ (i : Nat) (u : Value), l[i]? = some u → (W.alloc (.cells cs t)).cell? ⟨n, i, none⟩ = some u := by subst hn; exact cnew hl
theorem of15 {m : Int} (n : Int) (W : World) (hz : W.cell? ⟨0, 0, none⟩ = some (.int .i64 m)) : Calls Tryz.prog 15 #[.int .u64 n] W fun e w' => e = .returned (.agg #[.int .u8 1, .int .i64 0, .int .u64 0, .int .u64 n, .string (ByteArray.mk #[]), .string (ByteArray.mk #[]), .int .i64 0, .int .i64 0, .slice none 0 0]) ∧ Below W.heap.size W w' ∧ w'.cell? ⟨0, 0, none⟩ = some (.int .i64 m) :=
 (lit15 n W).mono fun e w' h => ⟨h.1, h.2, (h.2.cell (p := ⟨0, 0, none⟩) (World.block_lt_of_cell? W _ hz)).trans hz⟩
theorem zset {m : Value} {W : World} {a i : Nat} (v : Value) (ha : 0 < a) (h : W.cell? ⟨0, 0, none⟩ = some m) : (W.setCell ⟨a, i, none⟩ v).cell? ⟨0, 0, none⟩ = some m := (World.cell?_of_block (Below.heap_setCell W ⟨a, i, none⟩ v 0 (fun e => by simp only at e; omega))).trans h
theorem below_via {n : Nat} {w X Y : World} (h : Below n w X) (hb : Below X.heap.size X Y) (hn : n ≤ X.heap.size) : Below n w Y := h.trans (hb.mono hn)
theorem tbox_mk {wz wx : World} {g : Nat} {n : Int} {tr fr : Bool} (h1 : Below wz.heap.size wz wx) (h2 : wz.heap.size ≤ g) (h3 : g < wx.heap.size) (h4 : wx.cell? ⟨g, 0, none⟩ = some (.int .i64 n)) (h5 : wx.cell? ⟨g, 1, none⟩ = some (.bool tr)) (h6 : wx.cell? ⟨g, 2, none⟩ = some (.bool fr)) : Hid (TBox wz wx g n tr fr) := ⟨h1, h2, h3, h4, h5, h6⟩
def Knows8 (m : Int) : Prop := ∀ (w : World), w.cell? ⟨0, 0, none⟩ = some (.int .i64 m) → Calls Tryz.prog 6 #[] w fun e w' => e = .returned (.bool true) ∧ Below w.heap.size w w'
set_option maxRecDepth 100000 in
set_option maxHeartbeats 4000000 in
theorem known8_any (m : Int) : Knows8 m := by
 intro w hz
 obtain ⟨w1, hw1, hs1, hb1, hc1, hf1⟩ := box1 w #[.int .u8 5, .int .i64 0, .int .u64 0, .int .u64 0, .string (ByteArray.mk #[]), .string (ByteArray.mk #[]), .int .i64 0, .int .i64 0, .slice none 0 0] 45
 obtain ⟨e0, e1, e2, e3, e4, e5, e6, e7, e8⟩ := row9 hc1
 have hz1 : w1.cell? ⟨0, 0, none⟩ = some (.int .i64 m) := (hb1.cell (p := ⟨0, 0, none⟩) (World.block_lt_of_cell? w _ hz)).trans hz
 have hl1 : w.heap.size < w1.heap.size := by omega
 have hw := hide hb1
 clear hc1 hf1 hb1
 replace hs1 := hide hs1
 replace hw1 := hide hw1
 go_enter Tryz.func6, Tryz.ntmps6
 go_upto_region 3 with fail
 rw [hw1.out]
 go_cut [3, 4] (fun sp er wx => ∃ g, sp = .pointer (some ⟨g, 0, none⟩) ∧ er = .int .i64 0 ∧ Hid (TBox w1 wx g 9 false false) ∧ wx.cell? ⟨0, 0, none⟩ = some (.int .i64 m))
 case first =>
  have hlw : 0 < w1.heap.size := by omega
  go_region_held3 (fun w' => (Below w1.heap.size w1 w' ∧ ∀ b o, b < w1.heap.size → w'.cell? ⟨b, o, none⟩ = w1.cell? ⟨b, o, none⟩) ∧ w'.cell? ⟨0, 0, none⟩ = some (.int .i64 m))
   (refine ⟨held8 ?_, ?_⟩ <;> repeat (first | (with_reducible assumption) | (with_reducible exact Below.refl _ _) | (with_reducible refine Below.drew ?_) | (with_reducible refine zalloc _ ?_) | (with_reducible refine zdrew ?_) | (with_reducible refine Below.alloc ?_ ?_ _) | (with_reducible refine below_via ?_ hb4 ?_) | (with_reducible refine below_via ?_ hb3 ?_) | (with_reducible refine below_set3 ?_ ?_ _ _ _) | (with_reducible refine zset _ ?_ ?_) | omega | (simp only [World.size_drew, World.size_alloc]; omega)))
   (first | (go_at_call 15; refine (of15 (m := m) _ _ (by repeat (first | (with_reducible assumption) | (with_reducible refine zalloc _ ?_) | (with_reducible refine zdrew ?_) | (with_reducible refine zset _ (by omega) ?_)))).mono ?_; rintro e w3 ⟨rfl, hb3, hz3⟩; have kb3 := bcell hb3; have hs3 := hb3.size; simp only [World.size_drew, World.size_alloc] at hs3; (have hs3b : w1.heap.size ≤ w3.heap.size := (by omega)); (try have hs3a : w1.heap.size < w3.heap.size := (by omega))) | (go_at_call 16; refine (ofK (m := m) _ _ _ 12 [(5, 0), (1, 1)] (by unfold u8; omega) (by simp [u8, u64]) (by decide) (by simp <;> omega) (by first | exact cnew rfl | exact calloc _ (cnew rfl) | exact cnew' rfl (by simp) | exact calloc _ (cnew' rfl (by simp))) (by repeat (first | (with_reducible assumption) | (with_reducible refine zalloc _ ?_) | (with_reducible refine zdrew ?_) | (with_reducible refine zset _ (by omega) ?_))) _ k1).mono ?_; rintro e w4 ⟨rfl, hb4⟩; have kb4 := bcell hb4; have hs4 := hb4.size; simp only [World.size_drew, World.size_alloc] at hs4; (have hs4a : w3.heap.size < w4.heap.size := (by omega)); (have hs4b : w1.heap.size < w4.heap.size := (by omega)); (try have hs4c : w3.heap.size + 1 < w4.heap.size := (by omega)); have hz4 : w4.cell? ⟨0, 0, none⟩ = some (.int .i64 m) := (hb4.cell (p := ⟨0, 0, none⟩) (by simp <;> omega)).trans (by repeat (first | (with_reducible assumption) | (with_reducible refine zalloc _ ?_) | (with_reducible refine zdrew ?_) | (with_reducible refine zset _ (by omega) ?_)))))
  all_goals go_wp2
  all_goals go_meet
  all_goals refine ⟨_, rfl, rfl, tbox_mk ?_ ?_ ?_ ?_ ?_ ?_, ?_⟩
  all_goals (repeat (first | (with_reducible assumption) | (with_reducible exact Below.refl _ _) | (with_reducible refine Below.drew ?_) | (with_reducible refine zalloc _ ?_) | (with_reducible refine zdrew ?_) | (with_reducible refine Below.alloc ?_ ?_ _) | (with_reducible refine below_via ?_ hb4 ?_) | (with_reducible refine below_via ?_ hb3 ?_) | (with_reducible refine below_set3 ?_ ?_ _ _ _) | (with_reducible refine zset _ ?_ ?_) | omega | (simp only [World.size_drew, World.size_alloc, World.size_setCell]; omega)))
  all_goals first | (simp [go_sem]; done) | (simp [go_sem, kb4]; done) | (simp [go_sem, kb4, kb3]; done) | (simp [go_sem, kb4, show w3.heap.size < w3.heap.size + 1 + 1 from (by omega)]; done) | (simp [go_sem, kb4, kb3, hs3a, show w1.heap.size < w3.heap.size + 1 from (by omega)]; done) | skip
 case rest =>
  obtain ⟨g, rfl, rfl, hT, hzc⟩ := hcut
  obtain ⟨hbc, hgz, hgl, s0, s1, s2⟩ := hT.out
  have kbc := bcell' hbc
  have q1 := Nat.lt_of_lt_of_le hl1 hbc.size
  have c0 := (kbc.1 _ 0 hl1).trans e0
  have c1 := (kbc.1 _ 1 hl1).trans e1
  have c2 := (kbc.1 _ 2 hl1).trans e2
  have c3 := (kbc.1 _ 3 hl1).trans e3
  have c4 := (kbc.1 _ 4 hl1).trans e4
  have c5 := (kbc.1 _ 5 hl1).trans e5
  have c6 := (kbc.1 _ 6 hl1).trans e6
  have c7 := (kbc.1 _ 7 hl1).trans e7
  have c8 := (kbc.1 _ 8 hl1).trans e8
  have hwc := hide (hw.out.trans (hbc.mono (by omega)))
  have h0 : 0 < wc.heap.size := by omega
  clear kbc e0 e1 e2 e3 e4 e5 e6 e7 e8
  go_wp2_with fail
  refine (of15 (m := m) _ _ hzc).mono ?_
  rintro e w3 ⟨rfl, hb3, hz3⟩
  have kb3 := bcell hb3
  have hs3 := hb3.size
  go_wp2_with fail
  refine (of15 (m := m) _ _ hz3).mono ?_
  rintro e w4 ⟨rfl, hb4, hz4⟩
  have kb4 := bcell hb4
  have hs4 := hb4.size
  go_wp2_with fail
  refine (ofK (m := m) _ _ _ 19 [(1, 1), (1, 2)] (by unfold u8; omega) (by simp [u8, u64]) (by decide) (by simp) (cnew rfl) (by repeat (first | (with_reducible assumption) | (with_reducible refine zalloc _ ?_) | (with_reducible refine zdrew ?_))) _ k2).mono ?_
  rintro e w6 ⟨rfl, hb6⟩
  have hs6 := hb6.size
  simp only [World.size_alloc] at hs6
  have hz6 : w6.cell? ⟨0, 0, none⟩ = some (.int .i64 m) := (hb6.cell (p := ⟨0, 0, none⟩) (by simp)).trans (by repeat (first | (with_reducible assumption) | (with_reducible refine zalloc _ ?_) | (with_reducible refine zdrew ?_)))
  have hbE : Below wc.heap.size wc w6 := hb3.trans (((hb4.mono hs3).trans (((Below.refl _ _).alloc (Nat.le_refl _) _).mono (Nat.le_trans hs3 hs4))).trans (hb6.mono (by simp only [World.size_alloc]; omega)))
  have d0 : w6.cell? ⟨w.heap.size, 0, none⟩ = some _ := (hbE.cell (p := ⟨w.heap.size, 0, none⟩) q1).trans c0
  have d1 : w6.cell? ⟨w.heap.size, 1, none⟩ = some _ := (hbE.cell (p := ⟨w.heap.size, 1, none⟩) q1).trans c1
  have d2 : w6.cell? ⟨w.heap.size, 2, none⟩ = some _ := (hbE.cell (p := ⟨w.heap.size, 2, none⟩) q1).trans c2
  have d3 : w6.cell? ⟨w.heap.size, 3, none⟩ = some _ := (hbE.cell (p := ⟨w.heap.size, 3, none⟩) q1).trans c3
  have d4 : w6.cell? ⟨w.heap.size, 4, none⟩ = some _ := (hbE.cell (p := ⟨w.heap.size, 4, none⟩) q1).trans c4
  have d5 : w6.cell? ⟨w.heap.size, 5, none⟩ = some _ := (hbE.cell (p := ⟨w.heap.size, 5, none⟩) q1).trans c5
  have d6 : w6.cell? ⟨w.heap.size, 6, none⟩ = some _ := (hbE.cell (p := ⟨w.heap.size, 6, none⟩) q1).trans c6
  have d7 : w6.cell? ⟨w.heap.size, 7, none⟩ = some _ := (hbE.cell (p := ⟨w.heap.size, 7, none⟩) q1).trans c7
  have d8 : w6.cell? ⟨w.heap.size, 8, none⟩ = some _ := (hbE.cell (p := ⟨w.heap.size, 8, none⟩) q1).trans c8
  have r0 : w6.cell? ⟨g, 0, none⟩ = some _ := (hbE.cell (p := ⟨g, 0, none⟩) hgl).trans s0
  have r1 : w6.cell? ⟨g, 1, none⟩ = some _ := (hbE.cell (p := ⟨g, 1, none⟩) hgl).trans s1
  have r2 : w6.cell? ⟨g, 2, none⟩ = some _ := (hbE.cell (p := ⟨g, 2, none⟩) hgl).trans s2
  have p1 : w.heap.size < w6.heap.size := by omega
  have p2 : g < w6.heap.size := by omega
  clear kb3 kb4 hb3 hb4 hb6 hz3 hz4 s0 s1 s2 c0 c1 c2 c3 c4 c5 c6 c7 c8
  have hbE2 := hide hbE
  clear hbE
  go_wp2_with fail
  refine (ofK (m := m) _ _ _ 9 [(5, 0)] (by unfold u8; omega) (by simp [u8, u64]) (by decide) (by simp <;> omega) (by first | exact cnew rfl | exact cnew' rfl (by simp)) (by repeat (first | (with_reducible assumption) | (with_reducible refine zalloc _ ?_) | (with_reducible refine zdrew ?_))) _ k3).mono ?_
  rintro e w8 ⟨rfl, hb8⟩
  have kb8 := bcell hb8
  have hs8 := hb8.size
  simp only [World.size_alloc] at hs8
  have p3 : g < w6.heap.size + 1 := by omega
  have p4 : g < w6.heap.size + 1 + 1 := by omega
  have p5 : g < w8.heap.size := by omega
  have h6 := hide (hwc.out.trans (hbE2.out.mono (Nat.le_of_lt q1)))
  go_wp2
  go_ret
  refine ⟨rfl, ?_⟩
  have h6' := h6.out
  repeat (first | (with_reducible assumption) | (with_reducible refine Below.alloc ?_ ?_ _) | (with_reducible refine below_via ?_ hb8 ?_) | (with_reducible refine below_set3 ?_ ?_ _ _ _) | omega | (simp only [World.size_alloc]; omega))
end Go.Proofs.YtbbdhknagofghaaGreat

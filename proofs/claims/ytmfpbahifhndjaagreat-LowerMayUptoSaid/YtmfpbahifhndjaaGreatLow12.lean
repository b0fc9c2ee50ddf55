import Derived.Test.YtmfpbahifhndjaaGreatLow11
import Derived.Laws.EntriesVeiled
set_option linter.all false
/-! Layer 10: codes that are written: a row of nodes of the call's own. -/
namespace Go.Proofs.YtmfpbahifhndjaaGreat
open Go.RowKit
theorem node_info : (Tryz.prog.info? 79).map (fun i => (i.zero, i.size, i.bytes)) = some (some (.agg #[.int .u8 0, .int .i64 0, .int .i64 0, .int .i64 0, .int .u64 0, .int .u64 0]), 6, 48) := by kernel_rfl
def okN (n : Nd) : Prop := u8 n.op ∧ u64 n.hi ∧ u64 n.lo
theorem ndC_len (n : Nd) : (ndC n).length = 6 := rfl
theorem ndC_one (n : Nd) : ∀ u ∈ ndC n, u.oneCell' = true := fun u hu => by simp [ndC] at hu; rcases hu with rfl | rfl | rfl | rfl | rfl | rfl <;> rfl
theorem nds_one (l : List Nd) : ∀ u ∈ l.flatMap ndC, u.oneCell' = true := fun u hu => by
 obtain ⟨n, -, hu⟩ := List.mem_flatMap.1 hu
 exact ndC_one n u hu
theorem nds_len (l : List Nd) : (l.flatMap ndC).length = l.length * 6 := by
 induction l with
 | nil => rfl
 | cons a l ih => simp only [List.flatMap_cons, List.length_append, ndC_len, ih, List.length_cons]; omega
/-- The cells of a row that reads, one behind the other. -/
theorem Sl.flat {α : Type} {k : Nat} {R : CR α} {w : World} {B b o : Nat} {xs : List α} {f : α → List Value} (h : Sl k R w B (some ⟨b, o, none⟩) xs) (hf : ∀ x, (f x).length = k) (hR : ∀ x cs, R w B cs x → cs = f x) (hk : 0 < k) :
  ∀ j u, (xs.flatMap f)[j]? = some u → w.cell? ((⟨b, o, none⟩ : Addr).add j) = some u := by
 intro j u hu
 have hlen : ∀ l : List α, (l.flatMap f).length = l.length * k := fun l => by
  induction l with
  | nil => simp
  | cons a l ih => simp only [List.flatMap_cons, List.length_append, hf, ih, List.length_cons, Nat.add_mul]; omega
 have hj : j < xs.length * k := by rw [← hlen]; exact (List.getElem?_eq_some_iff.1 hu).1
 have hi : j / k < xs.length := (Nat.div_lt_iff_lt_mul hk).2 hj
 have hr : j % k < k := Nat.mod_lt _ hk
 have hd : j / k * k + j % k = j := Nat.div_add_mod' j k
 have hx : xs[j / k]? = some xs[j / k] := List.getElem?_eq_getElem hi
 have hr' : j % k < (f xs[j / k]).length := by rw [hf]; exact hr
 have hv : (f xs[j / k])[j % k]? = some (f xs[j / k])[j % k] := List.getElem?_eq_getElem hr'
 have h1 := flatMap_get hf xs (j / k) (j % k) _ _ hx hv
 rw [hd, hu] at h1
 injection h1 with h1
 obtain ⟨b', o', cs, hA, -, -, hc, hRx⟩ := h.2 (j / k) _ hx
 injection hA with hA
 injection hA with e1 e2 e3
 subst e1 e2
 have h2 := hc (j % k) u (by rw [hR _ _ hRx, hv, h1])
 have e : (⟨b, o, none⟩ : Addr).add j = ⟨b, o + j / k * k + j % k, none⟩ := by rw [Nat.add_assoc, hd]; unfold Addr.add; split <;> simp_all
 rw [e]; exact h2
/-- Nodes in a row of the call's own. -/
def NdS (w : World) (base : Nat) (v : Value) (l : List Nd) : Prop := (∀ n ∈ l, okN n) ∧ w.ownsRow base 79 6 v l.length (l.flatMap ndC)
theorem NdS.nil_ (w : World) (base : Nat) : NdS w base (.slice none 0 0) [] := ⟨fun n h => by simp at h, World.ownsRow_nil _ _ _ _⟩
theorem NdS.below {w w' : World} {base C : Nat} {v : Value} {l : List Nd} (h : NdS w base v l) (hb : Below C w w') (hC : w.heap.size ≤ C) : NdS w' base v l := ⟨h.1, own_belowR h.2 hb hC⟩
theorem NdS.mono {w : World} {base base' : Nat} {v : Value} {l : List Nd} (h : NdS w base v l) (hb : base' ≤ base) : NdS w base' v l := by
 refine ⟨h.1, h.2.1, ?_⟩
 rcases h.2.2 with h2 | ⟨g, cap, cur, rfl, hg, r⟩
 ·exact .inl h2
 ·exact .inr ⟨g, cap, cur, rfl, by omega, r⟩
theorem NdS.form {w : World} {base : Nat} {v : Value} {l : List Nd} (h : NdS w base v l) : ∃ A cap, v = .slice A l.length cap := by
 rcases h.2.2 with ⟨rfl, hz⟩ | ⟨g, cap, cur, rfl, _⟩
 ·exact ⟨none, 0, by rw [hz]⟩
 ·exact ⟨_, _, rfl⟩
theorem NdS.sl {w : World} {base : Nat} {v : Value} {l : List Nd} (h : NdS w base v l) : ∃ A cap, v = .slice A l.length cap ∧ Sl 6 rNd w w.heap.size A l :=
 own_sl (f := ndC) ndC_len (fun x hx => ⟨rfl, h.1 x hx⟩) h.2
/-- append of a node. -/
theorem append_n {W : World} {base : Nat} {v : Value} {l : List Nd} (x : Nd) (hx : okN x) (hd : NdS W base v l) (hb : base ≤ W.heap.size) (hz : l.length ≤ bigI) :
  ∃ v' w', (AppG #[35, 35] 35 #[v, .slice (some ⟨W.heap.size, 0, none⟩) 1 1]).run Tryz.prog (W.alloc (.cells (ndC x).toArray 79)) = .ok v' w' ∧ NdS w' base v' (l ++ [x]) ∧ Below base W w' := by
 unfold bigI at hz
 obtain ⟨ii, hii, hzi0, hzi1, hzi2⟩ := info_parts node_info
 obtain ⟨v', w', hrun, h2, h3, _, _⟩ := run_append_own_at (P := Tryz.prog) (W.alloc (.cells (ndC x).toArray 79)) base 35 35 79 ii _ 6 48 Tryz.underlying35 hii hzi0 hzi1 hzi2 rfl (by omega) v l.length _ (World.ownsRow.alloc hd.2 _) ⟨W.heap.size, 0, none⟩ 1 1 (ndC x) rfl (World.news_of_block (cs := (ndC x).toArray) (t := 79) (fr := (0, 0)) (heap_alloc_new W _)) (ndC_one x) (by simp [maxLen]; omega) (by omega) (by simp; omega)
 exact ⟨v', w', hrun, ⟨fun n hn => by
  rcases List.mem_append.1 hn with hn | hn
  ·exact hd.1 n hn
  ·simp at hn; exact hn ▸ hx, by simpa using h2⟩, (((Below.refl _ _).alloc hb _).grown h3 (by simp; omega) (fun g e => (hd.2.lt g e).1))⟩
/-- append of nodes that read. -/
theorem append_ns {W : World} {base B c : Nat} {v : Value} {A : Option Addr} {l ys : List Nd} (hs : Sl 6 rNd W B A ys) (hy : 0 < ys.length) (hd : NdS W base v l) (hb : base ≤ W.heap.size) (hz : l.length + ys.length ≤ bigI) :
  ∃ v' w', (AppG #[35, 35] 35 #[v, .slice A ys.length c]).run Tryz.prog W = .ok v' w' ∧ NdS w' base v' (l ++ ys) ∧ Below base W w' := by
 unfold bigI at hz
 obtain ⟨ii, hii, hzi0, hzi1, hzi2⟩ := info_parts node_info
 obtain ⟨b, o, hA, -⟩ := hs.node hy
 subst hA
 have hok : ∀ n ∈ ys, okN n := fun n hn => by
  obtain ⟨i, hi, rfl⟩ := List.getElem_of_mem hn
  obtain ⟨_, _, _, _, _, _, _, _, _, _, h1, h2, h3⟩ := hs.node hi
  exact ⟨h1, h2, h3⟩
 obtain ⟨v', w', hrun, h2, h3, _, _⟩ := run_append_own_at (P := Tryz.prog) W base 35 35 79 ii _ 6 48 Tryz.underlying35 hii hzi0 hzi1 hzi2 rfl (by omega) v l.length _ hd.2 ⟨b, o, none⟩ ys.length c (ys.flatMap ndC) (nds_len ys) (hs.flat ndC_len (fun _ _ h => h.1) (by omega)) (nds_one ys) (by simp [maxLen]; omega) (by omega) hb
 exact ⟨v', w', hrun, ⟨fun n hn => by
  rcases List.mem_append.1 hn with hn | hn
  ·exact hd.1 n hn
  ·exact hok n hn, by simpa using h2⟩, (Below.refl _ _).grown h3 hb (fun g e => (hd.2.lt g e).1)⟩
end Go.Proofs.YtmfpbahifhndjaaGreat
/-! The document's layer 10: the width of a node that takes nothing. -/
namespace Go.Proofs.YtmfpbahifhndjaaGreat
open Go.RowKit
theorem nth_cases {α : Type} (l : List α) (i : Int) : (∃ k : Nat, i = k ∧ ∃ h : k < l.length, nth l i = some l[k]) ∨ (nth l i = none ∧ inB l.length i = false ∧ ¬ (0 ≤ i ∧ i < l.length)) := by
 by_cases h : 0 ≤ i ∧ i < l.length
 ·obtain ⟨k, rfl⟩ := Int.eq_ofNat_of_zero_le h.1
  exact .inl ⟨k, rfl, by omega, nth_at k (by omega)⟩
 ·exact .inr ⟨Sl.nth_no h, inB_no h, h⟩
set_option maxRecDepth 100000 in
set_option maxHeartbeats 4000000 in
theorem plain0_any (A1 A2 A3 A4 A5 A6 A7 A8 A9 A10 A11 A12 : Option Addr) (p : Lp) (c1 c2 c3 c4 c5 c6 c7 c8 c9 c10 c11 c12 : Nat) (act : Int) (n : Nd) (w : World) (h : LpS w w.heap.size A1 A2 A3 A4 A5 A6 A7 A8 A9 A10 A11 A12 p) (hn : u64 n.hi ∧ u64 n.lo) : Calls Tryz.prog 18 #[.agg #[.slice A1 p.heads.length c1, .slice A2 p.metas.length c2, .slice A3 p.steps.length c3, .slice A4 p.acts.length c4, .slice A5 p.tabs.length c5, .slice A6 p.control.length c6, .slice A7 p.emit.length c7, .slice A8 p.nh.length c8, .slice A9 p.nf.length c9, .slice A10 p.nm.length c10, .slice A11 p.na.length c11, .slice A12 p.nt.length c12], .int .i64 act, .agg #[.int .u8 n.op, .int .i64 n.w, .int .i64 n.a, .int .i64 n.b, .int .u64 n.hi, .int .u64 n.lo]] w fun e w' => e = .returned (.int .i64 (givR p act n)) ∧ Below w.heap.size w w' := by
 obtain ⟨op, nw, a, b, hi, lo⟩ := n
 simp only at hn ⊢
 obtain ⟨wz, hwz, hsz, hbz, hcz, -⟩ := box1 w #[.slice A1 p.heads.length c1, .slice A2 p.metas.length c2, .slice A3 p.steps.length c3, .slice A4 p.acts.length c4, .slice A5 p.tabs.length c5, .slice A6 p.control.length c6, .slice A7 p.emit.length c7, .slice A8 p.nh.length c8, .slice A9 p.nf.length c9, .slice A10 p.nm.length c10, .slice A11 p.na.length c11, .slice A12 p.nt.length c12] 33
 obtain ⟨wa, hwa, hsa, hba, hca, -⟩ := box1 wz #[.int .u8 op, .int .i64 nw, .int .i64 a, .int .i64 b, .int .u64 hi, .int .u64 lo] 79
 have Y := fun i => (hba.cell (p := ⟨w.heap.size, i, none⟩) (by show w.heap.size < _; omega)).trans (hcz i)
 have y0 := Y 0
 have y1 := Y 1
 have y3 := Y 3
 simp only [List.getElem?_toArray, List.getElem?_cons_zero, List.getElem?_cons_succ] at y0 y1 y3
 rw [hsz] at hca
 have x0 : wa.cell? ⟨w.heap.size + 1, 0, none⟩ = some (.int .u8 op) := hca 0
 have x1 : wa.cell? ⟨w.heap.size + 1, 1, none⟩ = some (.int .i64 nw) := hca 1
 have x2 : wa.cell? ⟨w.heap.size + 1, 2, none⟩ = some (.int .i64 a) := hca 2
 have x3 : wa.cell? ⟨w.heap.size + 1, 3, none⟩ = some (.int .i64 b) := hca 3
 have x4 : wa.cell? ⟨w.heap.size + 1, 4, none⟩ = some (.int .u64 hi) := hca 4
 have x5 : wa.cell? ⟨w.heap.size + 1, 5, none⟩ = some (.int .u64 lo) := hca 5
 have hl1 : w.heap.size < wa.heap.size := by omega
 have hl2 : w.heap.size + 1 < wa.heap.size := by omega
 have hw : Below w.heap.size w wa := hbz.trans (hba.mono (by omega))
 have hS := (h.below hw).more hw.size
 have hA1 := hide hS.heads
 have hA2 := hide hS.metas
 have hA4 := hide hS.acts
 have lA1 := hS.heads.len
 have lA4 := hS.acts.len
 replace hw := hide hw
 replace hsa := hide hsa
 have hw' := hide (fun o => hw.out.alloc hw.out.size o)
 have hI' := hide (fun (l : List Int) (A' : Option Addr) (g : Sl 1 rInt wa wa.heap.size A' l) (o : Obj) => (g.alloc sta_int (Nat.le_refl _) o).more (B' := (wa.alloc o).heap.size) sta_int (by simp))
 clear hca hcz hba hbz h hS Y
 have hv := hide (show givR p act ⟨op, nw, a, b, hi, lo⟩ = if op = 1 then (if a = 0 ∧ b = 0 ∧ widthB nw = true ∧ fitN nw hi lo = true then nw else 0) else if ¬ (hi = 0 ∧ lo = 0) ∨ (op ≠ 2 ∧ b ≠ 0) then 0 else givP p act op a b from rfl)
 go_enter Tryz.func18, Tryz.ntmps18
 by_cases o1 : op = 1
 ·subst o1
  have hF := fun W => fits01_all hi lo nw W hn
  have hK := rok_any nw
  generalize fitN nw hi lo = F at hF hv
  generalize widthB nw = K at hK hv
  replace hF := hide hF
  by_cases ha : a = 0
  ·subst ha
   by_cases hb : b = 0
   ·subst hb
    cases K <;> cases F
    all_goals go_wp2_with (first | (go_at_call 21; refine (hK _).mono ?_; rintro e w' ⟨rfl, rfl⟩) | (go_at_call 48; refine (hF.out _).mono ?_; rintro e w3 ⟨rfl, hb3⟩; have kb3 := bcell hb3; have q1 := Nat.lt_of_lt_of_le hl2 (Nat.le_trans (by simp) hb3.size); replace hb3 := hide hb3))
    all_goals go_ret
    all_goals first | exact ⟨ret_int (by rw [hv.out]; simp), hw'.out _⟩ | exact ⟨ret_int (by rw [hv.out]; simp), (hw'.out _).trans (hb3.out.mono (hw'.out _).size)⟩
   ·go_wp2
    go_ret
    exact ⟨ret_int (by rw [hv.out]; simp [hb]), hw'.out _⟩
  ·go_wp2
   go_ret
   exact ⟨ret_int (by rw [hv.out]; simp [ha]), hw'.out _⟩
 ·rw [if_neg o1] at hv
  by_cases k1 : hi = 0 ∧ lo = 0
  ·obtain ⟨rfl, rfl⟩ := k1
   by_cases k2 : op ≠ 2 ∧ b ≠ 0
   ·rw [if_pos (.inr k2)] at hv
    obtain ⟨k2, k3⟩ := k2
    have k4 : (op != 2) = true := bne_iff_ne.2 k2
    have k5 : (b != 0) = true := bne_iff_ne.2 k3
    go_wp2
    go_ret
    exact ⟨ret_int hv.out.symm, hw'.out _⟩
   ·rw [if_neg (by simp only [and_self, not_true_eq_false, false_or]; exact k2)] at hv
    by_cases o2 : op = 2
    ·subst o2
     rcases nth_cases p.heads a with ⟨k, rfl, hk, e1⟩ | ⟨e1, e2, e3⟩
     ·obtain ⟨g, o, A', c', rfl, hg, hcl, hsl⟩ := hA1.out.ints hk
      have hkz : (k : Int) < (p.heads.length : Int) := by omega
      have hv2 := hide (show givP p act 2 (k : Int) b = at0 p.heads[k] b from by simp [givP, e1])
      replace hsl := hide hsl
      go_wp2_with fail
      go_quiet ((go_at_call 53; exact quiet_same (rof_any _ _ _ _ _ (((hI'.out _ _ hsl.out _).drewN sta_int _).more sta_int (by simp)))))
      go_wp2
      go_ret
      exact ⟨ret_int (by rw [hv.out, hv2.out]), below_drewN (hw'.out _) _⟩
     ·have hv2 := hide (show givP p act 2 a b = 0 from by simp [givP, e1, at0_no])
      by_cases ha : 0 ≤ a
      ·have hax : ¬ a < (p.heads.length : Int) := by omega
       go_wp2
       go_ret
       exact ⟨ret_int (by rw [hv.out, hv2.out]), hw'.out _⟩
      ·go_wp2
       go_ret
       exact ⟨ret_int (by rw [hv.out, hv2.out]), hw'.out _⟩
    ·have hb : b = 0 := by
      by_cases hb : b = 0
      ·exact hb
      ·exact absurd ⟨o2, hb⟩ k2
     subst hb
     by_cases o3 : op = 3
     ·subst o3
      go_wp2_with (go_at_call 53; refine (rof_any _ _ _ _ _ (hI'.out _ _ hA2.out _)).mono ?_; rintro e w' ⟨rfl, rfl⟩)
      go_ret
      exact ⟨ret_int (by rw [hv.out]; rfl), hw'.out _⟩
     ·by_cases o4 : op = 4
      ·subst o4
       rcases nth_cases p.acts act with ⟨k, rfl, hk, e1⟩ | ⟨e1, e2, e3⟩
       ·obtain ⟨g, o, ecs, rfl, hg, hn', hcell, B1, B2, d1, d2, rfl, hs1, hs2⟩ := hA4.out.2 k _ (List.getElem?_eq_getElem hk)
        have t0 : wa.cell? ⟨g, o + k * 2, none⟩ = some (.slice B1 p.acts[k].params.length d1) := hcell 0 _ rfl
        have t1 : wa.cell? ⟨g, o + k * 2 + 1, none⟩ = some (.slice B2 p.acts[k].body.length d2) := hcell 1 _ rfl
        have hkz : (k : Int) < (p.acts.length : Int) := by omega
        have hv2 := hide (show givP p (k : Int) 4 a 0 = at0 p.acts[k].params a from by simp [givP, e1])
        replace hs1 := hide hs1
        clear hcell hs2
        go_wp2_with fail
        go_quiet ((go_at_call 53; exact quiet_same (rof_any _ _ _ _ _ (((hI'.out _ _ hs1.out _).drewN sta_int _).more sta_int (by simp)))))
        go_wp2
        go_ret
        exact ⟨ret_int (by rw [hv.out, hv2.out]), below_drewN (hw'.out _) _⟩
       ·have hv2 := hide (show givP p act 4 a 0 = 0 from by simp [givP, e1, at0_no])
        by_cases ha : 0 ≤ act
        ·have hax : ¬ act < (p.acts.length : Int) := by omega
         go_wp2
         go_ret
         exact ⟨ret_int (by rw [hv.out, hv2.out]), hw'.out _⟩
        ·go_wp2
         go_ret
         exact ⟨ret_int (by rw [hv.out, hv2.out]), hw'.out _⟩
      ·by_cases o5 : op = 5
       ·subst o5
        by_cases ha : a = 0
        ·subst ha
         go_wp2
         go_ret
         exact ⟨ret_int (by rw [hv.out]; rfl), hw'.out _⟩
        ·go_wp2
         go_ret
         exact ⟨ret_int (by rw [hv.out]; simp [givP, ha]), hw'.out _⟩
       ·by_cases o6 : op = 6
        ·subst o6
         rcases nth_cases p.heads a with ⟨k, rfl, hk, e1⟩ | ⟨e1, e2, e3⟩
         ·have hkz : (k : Int) < (p.heads.length : Int) := by omega
          go_wp2
          go_ret
          exact ⟨ret_int (by rw [hv.out]; simp [givP, inB_at hk]), hw'.out _⟩
         ·by_cases ha : 0 ≤ a
          ·have hax : ¬ a < (p.heads.length : Int) := by omega
           go_wp2
           go_ret
           exact ⟨ret_int (by rw [hv.out]; simp [givP, e2]), hw'.out _⟩
          ·go_wp2
           go_ret
           exact ⟨ret_int (by rw [hv.out]; simp [givP, e2]), hw'.out _⟩
        ·go_wp2
         go_ret
         exact ⟨ret_int (by rw [hv.out]; simp [givP, o2, o3, o4, o5, o6]), hw'.out _⟩
  ·rw [if_pos (.inl k1)] at hv
   by_cases k2 : hi = 0
   ·have k3 : ¬ lo = 0 := fun g => k1 ⟨k2, g⟩
    subst k2
    go_wp2
    go_ret
    exact ⟨ret_int hv.out.symm, hw'.out _⟩
   ·go_wp2
    go_ret
    exact ⟨ret_int hv.out.symm, hw'.out _⟩
end Go.Proofs.YtmfpbahifhndjaaGreat
/-! The document's layer 10: nodes that take one, or two. -/
set_option linter.all false
namespace Go.Proofs.YtmfpbahifhndjaaGreat
open Go.RowKit
set_option maxRecDepth 100000 in
set_option maxHeartbeats 4000000 in
theorem single0_any (n : Nd) (v : Int) (w : World) (h1 : oneOp n.op = true) (hv : 1 ≤ v ∧ v ≤ 128) : Calls Tryz.prog 19 #[.agg #[.int .u8 n.op, .int .i64 n.w, .int .i64 n.a, .int .i64 n.b, .int .u64 n.hi, .int .u64 n.lo], .int .i64 v] w fun e w' => e = .returned (.int .i64 (sngR n v)) ∧ Below w.heap.size w w' := by
 obtain ⟨hv1, hv2⟩ := hv
 obtain ⟨op, nw, a, b, hi, lo⟩ := n
 simp only
 obtain ⟨wa, hwa, hsa, hba, hca, -⟩ := box1 w #[.int .u8 op, .int .i64 nw, .int .i64 a, .int .i64 b, .int .u64 hi, .int .u64 lo] 79
 have x0 : wa.cell? ⟨w.heap.size, 0, none⟩ = some (.int .u8 op) := hca 0
 have x2 : wa.cell? ⟨w.heap.size, 2, none⟩ = some (.int .i64 a) := hca 2
 have x3 : wa.cell? ⟨w.heap.size, 3, none⟩ = some (.int .i64 b) := hca 3
 have hlt : w.heap.size < wa.heap.size := by omega
 replace hba := hide hba
 replace hsa := hide hsa
 clear hca
 simp only [oneOp, Bool.or_eq_true, decide_eq_true_eq] at h1
 have hop : op = 7 ∨ op = 8 ∨ op = 9 ∨ op = 13 ∨ op = 14 := by omega
 go_enter Tryz.func19, Tryz.ntmps19
 rcases hop with rfl | rfl | rfl | rfl | rfl
 all_goals
  go_wp2
  all_goals go_ret
  all_goals refine ⟨ret_int ?_, hba.out⟩
  all_goals try simp only [beq_iff_eq, beq_eq_false_iff_ne, bne_iff_ne, bne_eq_false_iff_eq, Bool.or_eq_true, Bool.or_eq_false_iff, Bool.and_eq_true, Bool.and_eq_false_iff, decide_eq_true_eq, decide_eq_false_iff_not, ne_eq, Decidable.not_not] at *
  all_goals (unfold sngR; (repeat' split) <;> first | omega | (simp_all <;> omega))
set_option maxRecDepth 100000 in
set_option maxHeartbeats 4000000 in
theorem pair0_any (n : Nd) (v u : Int) (w : World) (hv : 1 ≤ v ∧ v ≤ 128) (hu : 1 ≤ u ∧ u ≤ 128) : Calls Tryz.prog 20 #[.agg #[.int .u8 n.op, .int .i64 n.w, .int .i64 n.a, .int .i64 n.b, .int .u64 n.hi, .int .u64 n.lo], .int .i64 v, .int .i64 u] w fun e w' => e = .returned (.int .i64 (prR n v u)) ∧ Below w.heap.size w w' := by
 obtain ⟨hv1, hv2⟩ := hv
 obtain ⟨hu1, hu2⟩ := hu
 obtain ⟨op, nw, a, b, hi, lo⟩ := n
 simp only
 obtain ⟨wa, hwa, hsa, hba, hca, -⟩ := box1 w #[.int .u8 op, .int .i64 nw, .int .i64 a, .int .i64 b, .int .u64 hi, .int .u64 lo] 79
 have x0 : wa.cell? ⟨w.heap.size, 0, none⟩ = some (.int .u8 op) := hca 0
 have x2 : wa.cell? ⟨w.heap.size, 2, none⟩ = some (.int .i64 a) := hca 2
 have x3 : wa.cell? ⟨w.heap.size, 3, none⟩ = some (.int .i64 b) := hca 3
 have hlt : w.heap.size < wa.heap.size := by omega
 replace hba := hide hba
 replace hsa := hide hsa
 clear hca
 go_enter Tryz.func20, Tryz.ntmps20
 go_wp2
 all_goals go_ret
 all_goals refine ⟨ret_int ?_, hba.out⟩
 all_goals try simp only [beq_iff_eq, beq_eq_false_iff_ne, bne_iff_ne, bne_eq_false_iff_eq, Bool.or_eq_true, Bool.or_eq_false_iff, Bool.and_eq_true, Bool.and_eq_false_iff, decide_eq_true_eq, decide_eq_false_iff_not, ne_eq, Decidable.not_not] at *
 all_goals (unfold prR; (repeat' split) <;> first | omega | (simp_all <;> omega))
end Go.Proofs.YtmfpbahifhndjaaGreat
/-! Layer 10: lists held against each other; patterns; runs. -/
set_option linter.all false
namespace Go.Proofs.YtmfpbahifhndjaaGreat
open Go.RowKit
def fitP (x : Int × Int) (w : Int) : Bool := fitN w x.1 x.2
theorem fitP_any (x : Int × Int) (y : Int) (W : World) (h : u64 x.1 ∧ u64 x.2) : Calls Tryz.prog 46 #[.agg #[.int .u64 x.1, .int .u64 x.2], .int .i64 y] W fun e w' => e = .returned (.bool (fitP x y)) ∧ Below W.heap.size W w' := fits_all x.1 x.2 y W h
set_option maxRecDepth 100000 in
set_option maxHeartbeats 4000000 in
theorem eqFits_any (A A' : Option Addr) (cap cap' : Nat) (xs : List (Int × Int)) (ys : List Int) (w : World) (h : Sl 2 rNu w w.heap.size A xs) (h' : Sl 1 rInt w w.heap.size A' ys) :
  Calls Tryz.prog 45 #[.slice A xs.length cap, .slice A' ys.length cap', .func (.func 46) #[] #[]] w fun e w' => e = .returned (.bool (eqF fitP xs ys)) ∧ Below w.heap.size w w' := by
 have hl := h.len
 have hl' := h'.len
 have eg : ∀ args w, (callFunc 46 args).run Tryz.prog w = .ok (.enter 46 args) w := enters_of Tryz.func46 (by kernel_rfl) rfl
 go_enter Tryz.func45, Tryz.ntmps45
 by_cases he : xs.length = ys.length
 ·have hez : ((xs.length : Int) != (ys.length : Int)) = false := by rw [he]; exact bne_self_eq_false _
  have hv := hide (show eqF fitP xs ys = allN (fun i => atD (fun x => atD (fitP x) ys i) xs i) xs.length from by unfold eqF; rw [decide_eq_true he, Bool.true_and])
  replace he := hide he
  go_wp2
  go_loopw [7, 8, 9, 17] (fun _ _ _ i wr => ∃ k : Nat, k ≤ xs.length ∧ i = .int .i64 k ∧ Hid (allN (fun i => atD (fun x => atD (fitP x) ys i) xs i) k = true) ∧ Hid (Below w.heap.size w wr)) (fun _ _ _ i _ => xs.length - (intOf i).toNat)
  case atStart => exact ⟨0, Nat.zero_le _, rfl, hide rfl, hide (Below.refl _ _)⟩
  case round =>
   obtain ⟨k, hk, rfl, hc, hbr⟩ := hrel
   by_cases hlt : k < xs.length
   ·have hlt' : k < ys.length := by have := he.out; omega
    have hkz : (k : Int) < (xs.length : Int) := by omega
    have hkz' : (k : Int) < (ys.length : Int) := by omega
    obtain ⟨b, o, ecs, rfl, hb, hn, hcell, rfl, hy⟩ := h.2 k _ (List.getElem?_eq_getElem hlt)
    obtain ⟨b', o', rfl, hb', hc'⟩ := h'.int hlt'
    have hcw := fun j u hu => (hbr.out.cell (p := ⟨b, o + k * 2 + j, none⟩) hb).trans (hcell j u hu)
    have yc := (hbr.out.cell (p := ⟨b', o' + k, none⟩) hb').trans hc'
    have hstep : allN (fun i => atD (fun x => atD (fitP x) ys i) xs i) (k + 1) = fitP xs[k] ys[k] := by
     rw [allN, hc.out, Bool.true_and, atD_at _ hlt, atD_at _ hlt']
    have hwr := hbr.out.size
    clear h h' hcell hc
    generalize hxk : xs[k] = x at *
    generalize hyk : ys[k] = y at *
    have x0 : wr.cell? ⟨b, o + k * 2, none⟩ = some (.int .u64 x.1) := by simpa using hcw 0 _ rfl
    have x1 : wr.cell? ⟨b, o + k * 2 + 1, none⟩ = some (.int .u64 x.2) := hcw 1 _ rfl
    obtain ⟨wn, hwn, hsn, hbn, hcn, -⟩ := box1 wr #[.int .u64 x.1, .int .u64 x.2] 60
    have m0 : wn.cell? ⟨wr.heap.size, 0, none⟩ = some (.int .u64 x.1) := hcn 0
    have m1 : wn.cell? ⟨wr.heap.size, 1, none⟩ = some (.int .u64 x.2) := hcn 1
    have ycn := (hbn.cell (p := ⟨b', o' + k, none⟩) (Nat.lt_of_lt_of_le hb' hwr)).trans yc
    have hK := fitP_any x y wn hy
    have hlo := hide (fun (g : fitP x y = false) => show allN (fun i => atD (fun x => atD (fitP x) ys i) xs i) xs.length = false from allN_no hlt (by rw [atD_at _ hlt, atD_at _ hlt', hxk, hyk]; exact g))
    have hbw := hide (hbr.out.trans (hbn.mono hwr))
    have hwn2 : wr.heap.size < wn.heap.size := by omega
    replace hsn := hide hsn
    replace hstep := hide hstep
    clear hcn hbn hbr hcw
    generalize fitP x y = F at hK hstep hlo
    replace hK := hide hK
    cases F with
    | false =>
     replace hlo := hide (hlo.out rfl)
     go_wp2_with (go_at_fn 46; refine hK.out.mono ?_; rintro e w3 ⟨rfl, hb3⟩)
     go_ret
     exact ⟨ret_b (by rw [hv.out, hlo.out]), hbw.out.trans (hb3.mono (by have := hbw.out.size; omega))⟩
    | true =>
     go_wp2_with (go_at_fn 46; refine hK.out.mono ?_; rintro e w3 ⟨rfl, hb3⟩)
     go_roundw
     case rel => exact ⟨k + 1, by omega, by go_num, hstep, hide (hbw.out.trans (hb3.mono (by have := hbw.out.size; omega)))⟩
     case measure => simp [intOf]; omega
   ·have hke : k = xs.length := by omega
    subst hke
    go_wp2
    go_ret
    exact ⟨ret_b (by rw [hv.out, hc.out]), hbr.out⟩
 ·have hez : ((xs.length : Int) != (ys.length : Int)) = true := by rw [bne_iff_ne]; omega
  have hv := hide (show eqF fitP xs ys = false from by unfold eqF; rw [decide_eq_false he, Bool.false_and])
  clear h h'
  go_wp2
  go_ret
  exact ⟨ret_b hv.out.symm, Below.refl _ _⟩
set_option maxHeartbeats 400000 in
theorem sindex_any (A : Option Addr) (cap : Nat) (xs : List Int) (n : Int) (w : World) (h : Sl 1 rInt w w.heap.size A xs) :
  Calls Tryz.prog 59 #[.slice A xs.length cap, .int .i64 n] w fun e w' => e = .returned (.int .i64 (findI xs n)) ∧ w = w' := by
 have hl := h.len
 go_enter Tryz.func59, Tryz.ntmps59
 go_wp2
 go_loop [8] (fun i => ∃ k : Nat, k ≤ xs.length ∧ i = .int .i64 k ∧ n ∉ xs.take k) (fun i => xs.length - (intOf i).toNat)
 case atStart => exact ⟨0, Nat.zero_le _, rfl, by simp⟩
 case round =>
  obtain ⟨k, hk, rfl, hc⟩ := hrel
  by_cases hlt : k < xs.length
  ·obtain ⟨b, o, rfl, hb, hcell⟩ := h.int hlt
   clear h
   by_cases he : xs[k] = n
   ·have ht : (n == xs[k]) = true := by simp [he]
    have hv := hide (findI_at hlt hc he)
    clear he
    go_wp2
    go_ret
    exact ⟨ret_int hv.out.symm, rfl⟩
   ·have ht : (n == xs[k]) = false := by simp; exact fun e => he e.symm
    have hv := hide (notMem_take_snoc hlt hc he)
    clear he
    go_wp2
    go_round
    case rel => exact ⟨k + 1, by omega, by go_num, hv.out⟩
    case measure => simp [intOf]; omega
  ·have hv := hide (findI_no (notMem_of_take hk hlt hc))
   go_wp2
   go_ret
   exact ⟨ret_int hv.out.symm, rfl⟩
theorem findI_nonneg {α : Type} [DecidableEq α] (l : List α) (a : α) : decide (0 ≤ findI l a) = decide (a ∈ l) := by
 unfold findI
 by_cases h : a ∈ l <;> simp [h]
set_option maxHeartbeats 400000 in
theorem scontains_any (A : Option Addr) (cap : Nat) (xs : List Int) (n : Int) (w : World) (h : Sl 1 rInt w w.heap.size A xs) :
  Calls Tryz.prog 44 #[.slice A xs.length cap, .int .i64 n] w fun e w' => e = .returned (.bool (decide (n ∈ xs))) ∧ w = w' := by
 have hv := hide (findI_nonneg xs n)
 go_enter Tryz.func44, Tryz.ntmps44
 go_wp2_with (go_at_call 59; refine (sindex_any _ _ _ _ _ h).mono ?_; rintro e w' ⟨rfl, rfl⟩)
 go_ret
 exact ⟨ret_b hv.out, rfl⟩
set_option maxHeartbeats 400000 in
theorem in10_any (A : Option Addr) (cap : Nat) (xs : List Int) (n : Int) (w : World) (h : Sl 1 rInt w w.heap.size A xs) :
  Calls Tryz.prog 47 #[.slice A xs.length cap, .int .i64 n] w fun e w' => e = .returned (.bool (decide (n ∈ xs))) ∧ w = w' := by
 have hl := h.len
 go_enter Tryz.func47, Tryz.ntmps47
 go_wp2
 go_loop [5] (fun i => ∃ k : Nat, k ≤ xs.length ∧ i = .int .i64 k ∧ n ∉ xs.take k) (fun i => xs.length - (intOf i).toNat)
 case atStart => exact ⟨0, Nat.zero_le _, rfl, by simp⟩
 case round =>
  obtain ⟨k, hk, rfl, hc⟩ := hrel
  by_cases hlt : k < xs.length
  ·obtain ⟨b, o, rfl, hb, hcell⟩ := h.int hlt
   have hltz : (k : Int) < (xs.length : Int) := by omega
   clear h
   by_cases he : xs[k] = n
   ·have ht : (xs[k] == n) = true := by simp [he]
    have hv := hide (show n ∈ xs from by rw [← he]; exact List.getElem_mem _)
    clear he
    go_wp2
    go_ret
    exact ⟨ret_b (decide_eq_true hv.out).symm, rfl⟩
   ·have ht : (xs[k] == n) = false := by simp; exact he
    have hv := hide (notMem_take_snoc hlt hc he)
    clear he
    go_wp2
    go_round
    case rel => exact ⟨k + 1, by omega, by go_num, hv.out⟩
    case measure => simp [intOf]; omega
  ·have hv := hide (notMem_of_take hk hlt hc)
   go_wp2
   go_ret
   exact ⟨ret_b (decide_eq_false hv.out).symm, rfl⟩
end Go.Proofs.YtmfpbahifhndjaaGreat

import Derived.Test.YtbjokgnnklcbcaaGreatDoorTpr23
import Derived.Test.YtbjokgnnklcbcaaGreatDoorTpr33
set_option linter.all false
/-! The document's layer 13: Read. -/
namespace Go.Proofs.YtbjokgnnklcbcaaGreatDoor
open Go.RowKit
attribute [local go_sem ↓] app_eq
theorem nbox13 (W : World) : ∃ wa, W.alloc (.cells #[.slice none 0 0, .slice none 0 0, .slice none 0 0] 27) = wa ∧ Hid (Below W.heap.size W wa) ∧ wa.heap.size = W.heap.size + 1 ∧ wa.cell? ⟨W.heap.size, 0, none⟩ = some (.slice none 0 0) ∧ wa.cell? ⟨W.heap.size, 1, none⟩ = some (.slice none 0 0) ∧ wa.cell? ⟨W.heap.size, 2, none⟩ = some (.slice none 0 0) ∧ ∀ i, wa.frozen? ⟨W.heap.size, i, none⟩ = false := by
 obtain ⟨wa, hwa, hsa, hba, hca, hfa⟩ := box1 W #[.slice none 0 0, .slice none 0 0, .slice none 0 0] 27
 exact ⟨wa, hwa, hide hba, hsa, hca 0, hca 1, hca 2, hfa⟩
theorem lexR_ne' {l : List UInt8} {x : Int × Nat} (h : lexR l = .error x) : x.1 ≠ 0 := by
 have key : ∀ (fu k : Nat) (l : List UInt8) (x : Int × Nat), lexL fu k l = .error x → x.1 ≠ 0 := by
  intro fu
  induction fu with
  | zero => intro k l x h; cases h
  | succ fu ih =>
   intro k l x h
   unfold lexL at h
   simp only at h
   split at h
   ·cases h
   ·split at h
    ·rename_i e he
     injection h with h
     subst h
     exact oneR_err he
    ·split at h
     ·rename_i he
      injection h with h
      subst h
      exact ih _ _ _ he
     ·cases h
 unfold lexR at h
 split at h
 ·injection h with h; subst h; decide
 ·exact key _ _ _ _ h
theorem RfB.nowS {w : World} {g : Nat} {r : Rf} {v1 v2 v3 : Value} (h : RfB w g r v1 v2 v3) : (nowF r).s.length ≤ 65536 := by
 unfold nowF
 split
 ·simp
 ·exact h.1.head
theorem NetN.far {w : World} {g q i : Nat} {v1 v2 v3 : Value} {n : Net} (h : NetN w g v1 v2 v3 n) (hq : q ≤ g) (u : Value) : NetN (w.setCell ⟨q, i, none⟩ u) g v1 v2 v3 n := by
 obtain ⟨vs, h1, h2, h3⟩ := h.own1
 have hG := Grg.set q w i u
 exact ⟨h.size, own_grg h.own0 hG (by omega), own_grg h.own2 hG (by omega), vs, h1, own_grg h2 hG (by omega), fun i v p hv hp => own_grg (h3 i v p hv hp) hG (by omega)⟩
theorem setB {w : World} {g q : Nat} {v1 v2 v3 : Value} {n : Net} (h : NetN w g v1 v2 v3 n) (hq : q ≤ g) (hq1 : q + 1 < g) (a b c d e f : Value) : NetN ((((((w.setCell ⟨q, 0, none⟩ a).setCell ⟨q, 1, none⟩ b).setCell ⟨q, 2, none⟩ c).setCell ⟨q + 1, 0, none⟩ d).setCell ⟨q + 1, 1, none⟩ e).setCell ⟨q + 1, 2, none⟩ f) g v1 v2 v3 n :=
 (((((h.far hq a).far hq b).far hq c).far (by omega) d).far (by omega) e).far (by omega) f
/-- What Read holds: two boxes for its results, and the reader. -/
structure RdS (w W : World) (g : Nat) (R : Rf) (v1 v2 v3 : Value) : Prop where
 bel : Below w.heap.size w W
 rd : RfB W g R v1 v2 v3
 net : NetN W g v1 v2 v3 R.n
 z0 : W.cell? ⟨w.heap.size, 0, none⟩ = some (.slice none 0 0)
 z1 : W.cell? ⟨w.heap.size, 1, none⟩ = some (.slice none 0 0)
 z2 : W.cell? ⟨w.heap.size, 2, none⟩ = some (.slice none 0 0)
 e0 : W.cell? ⟨w.heap.size + 1, 0, none⟩ = some (.int .i64 0)
 e1 : W.cell? ⟨w.heap.size + 1, 1, none⟩ = some (.int .i64 0)
 e2 : W.cell? ⟨w.heap.size + 1, 2, none⟩ = some (.int .i64 0)
 fz : ∀ i, W.frozen? ⟨w.heap.size, i, none⟩ = false
 fe : ∀ i, W.frozen? ⟨w.heap.size + 1, i, none⟩ = false
theorem RdS.step {w W W' : World} {g : Nat} {R R' : Rf} {v1 v2 v3 v1' v2' v3' : Value} (h : RdS w W g R v1 v2 v3) (hg : w.heap.size + 1 < g) (hG : Below g W W') (hR : RfB W' g R' v1' v2' v3') (hN : NetN W' g v1' v2' v3' R'.n) : RdS w W' g R' v1' v2' v3' :=
 have kk := bcell' hG
 ⟨h.bel.trans (hG.mono (by omega)), hR, hN, (kk.1 _ 0 (by omega)).trans h.z0, (kk.1 _ 1 (by omega)).trans h.z1, (kk.1 _ 2 (by omega)).trans h.z2, (kk.1 _ 0 hg).trans h.e0, (kk.1 _ 1 hg).trans h.e1, (kk.1 _ 2 hg).trans h.e2, fun i => (kk.2 _ i (by omega)).trans (h.fz i), fun i => (kk.2 _ i hg).trans (h.fe i)⟩
theorem RdS.grg {w W W' : World} {g : Nat} {R R' : Rf} {v1 v2 v3 : Value} (h : RdS w W g R v1 v2 v3) (hg : w.heap.size + 1 < g) (hG : Grg g W W') (hR : RfB W' g R' v1 v2 v3) (hn : R'.n = R.n) : RdS w W' g R' v1 v2 v3 :=
 h.step hg (hG.below (Nat.le_refl _) (Nat.le_of_lt h.rd.lt)) hR (hn ▸ h.net.grg hG)
set_option maxRecDepth 100000 in
set_option maxHeartbeats 8000000 in
theorem read13r (s : ByteArray) (w : World) (hs : s.size ≤ 2000000) : Calls Tryz.prog 7 #[.string s] w fun e w' => ReadE s.data.toList e w' ∧ Below w.heap.size w w' := by
 obtain ⟨wa, hwa, hba, hsa, z0, z1, z2, fz⟩ := nbox13 w
 obtain ⟨wb, hwb, hsb, hbb, hcb, hfb⟩ := box1 wa #[.int .i64 0, .int .i64 0, .int .i64 0] 32
 have hB := hide (hba.out.trans (hbb.mono (by omega)))
 have kb := bcell' hbb
 have hla : w.heap.size < wa.heap.size := by omega
 replace z0 := (kb.1 _ 0 hla).trans z0
 replace z1 := (kb.1 _ 1 hla).trans z1
 replace z2 := (kb.1 _ 2 hla).trans z2
 have e0 := hcb 0
 have e1 := hcb 1
 have e2 := hcb 2
 rw [hsa] at e0 e1 e2 hfb
 simp at e0 e1 e2
 have hLx := lex03_any s wb (by omega)
 unfold LexE at hLx
 have hlt : w.heap.size + 1 < wb.heap.size := by omega
 cases hR : lexR s.data.toList with
 | error x =>
  obtain ⟨n, k⟩ := x
  rw [hR] at hLx
  have hrd : readT s.data.toList = .error (n, k) := by unfold readT; rw [hR]
  have hfin := hide (fun W => ReadE.err hrd W)
  have hn0 := lexR_ne' hR
  simp only [faultV] at hLx hfin hn0
  generalize (((placeR (s.data.toList.take k)).1 : Nat) : Int) = pl at hLx hfin
  generalize (((placeR (s.data.toList.take k)).2 : Nat) : Int) = pc at hLx hfin
  replace hLx := hide hLx
  have hnb : (n != 0) = true := by simp [hn0]
  replace hn0 := hide hn0
  generalize ReadE s.data.toList = Q at hfin ⊢
  clear hR hrd
  replace hsb := hide hsb
  go_enter Tryz.func7, Tryz.ntmps7
  go_upto_region 2 with (go_at_call 18; refine hLx.out.mono ?_; rintro e w1 ⟨rfl, hb1⟩; obtain ⟨w2, hw2, hs2, hb2, hc2, -⟩ := box1 w1 #[.int .i64 n, .int .i64 pl, .int .i64 pc] 32)
  have x0 := hc2 0
  have x1 := hc2 1
  have x2 := hc2 2
  simp at x0 x1 x2
  have hB2 := hb1.trans (hb2.mono hb1.size)
  have k2 := bcell' hB2
  have hl0 : w.heap.size < wb.heap.size := by omega
  replace z0 := (k2.1 _ 0 hl0).trans z0
  replace z1 := (k2.1 _ 1 hl0).trans z1
  replace z2 := (k2.1 _ 2 hl0).trans z2
  replace e0 := (k2.1 _ 0 hlt).trans e0
  replace e1 := (k2.1 _ 1 hlt).trans e1
  replace e2 := (k2.1 _ 2 hlt).trans e2
  have f0 := (k2.2 _ 0 hl0).trans ((kb.2 _ 0 hla).trans (fz 0))
  have f1 := (k2.2 _ 1 hl0).trans ((kb.2 _ 1 hla).trans (fz 1))
  have f2 := (k2.2 _ 2 hl0).trans ((kb.2 _ 2 hla).trans (fz 2))
  have g0 := (k2.2 _ 0 hlt).trans (hfb 0)
  have g1 := (k2.2 _ 1 hlt).trans (hfb 1)
  have g2 := (k2.2 _ 2 hlt).trans (hfb 2)
  have hlw0 : w.heap.size < w2.heap.size := by have := hB2.size; omega
  have hlw1 : w.heap.size + 1 < w2.heap.size := by have := hB2.size; omega
  have hlx : w1.heap.size < w2.heap.size := by omega
  have n1 : w1.heap.size ≠ w.heap.size := by have := hb1.size; omega
  have n2 : w1.heap.size ≠ w.heap.size + 1 := by have := hb1.size; omega
  have n3 : w.heap.size ≠ w.heap.size + 1 := by omega
  have n4 : w.heap.size + 1 ≠ w.heap.size := by omega
  have hBf := hide (hB.out.trans (hB2.mono hB.out.size))
  replace hs2 := hide hs2
  clear kb k2 hc2 hb2 hb1 hB2 hcb fz hfb hbb hLx hB
  go_upto_region 3 with fail
  go_region
  go_wp2
  have q := hide (((((((hBf.out.setCell (p := ⟨w.heap.size, 0, none⟩) (Nat.le_refl _) (.slice none 0 0)).setCell (p := ⟨w.heap.size, 1, none⟩) (Nat.le_refl _) (.slice none 0 0)).setCell (p := ⟨w.heap.size, 2, none⟩) (Nat.le_refl _) (.slice none 0 0)).setCell (p := ⟨w.heap.size + 1, 0, none⟩) (Nat.le_succ _) (.int .i64 n)).setCell (p := ⟨w.heap.size + 1, 1, none⟩) (Nat.le_succ _) (.int .i64 pl)).setCell (p := ⟨w.heap.size + 1, 2, none⟩) (Nat.le_succ _) (.int .i64 pc)).drew)
  refine bodyPost_ret (v := .tuple #[.agg #[.slice none 0 0, .slice none 0 0, .slice none 0 0], .agg #[.int .i64 n, .int .i64 pl, .int .i64 pc]]) ?_ rfl ⟨hfin.out _, q.out⟩
  simp [results, Tryz.results7, go_sem, z0, z1, z2, e0, e1, e2, n3, n4]
 | ok r =>
  rw [hR] at hLx
  replace hLx := hide (show Calls Tryz.prog 18 #[.string s] wb fun e w' => (∃ A cap, e = .returned (.tuple #[.slice A r.length cap, .agg #[.int .i64 0, .int .i64 0, .int .i64 0]]) ∧ Sl 6 rTk w' w'.heap.size A r) ∧ Below wb.heap.size wb w' from hLx)
  obtain ⟨X1, hX1⟩ : ∃ X1, swsF r.length ⟨r, emptyN, none⟩ = X1 := ⟨_, rfl⟩
  obtain ⟨X2, hX2⟩ : ∃ X2, lnsF X1.l.length X1 = X2 := ⟨_, rfl⟩
  have hall : allF r = failF ((nowF X2).kind == 0) (nowF X2) 4 X2 := by rw [← hX2, ← hX1]; rfl
  have hrd : readT s.data.toList = ansF (allF r) := readT_lexed hR
  have her := hide (fun (x : Int × Nat) (h : ansF (allF r) = .error x) => all_err hR (by rw [← all_same]; exact h))
  have hfE := hide (fun (W : World) (x : Int × Nat) (h : ansF (allF r) = .error x) => ReadE.err (hrd.trans h) W)
  have hfO := hide (fun (W : World) (n : Net) (h : ansF (allF r) = .ok n) (A1 A2 A3 : Option Addr) (c1 c2 c3 : Nat) (hN : NetS W W.heap.size A1 A2 A3 n) => ReadE.ok (hrd.trans h) c1 c2 c3 hN)
  have hlen := lex_len hR
  rw [hall] at her hfE hfO
  replace hX1 := hide hX1
  replace hX2 := hide hX2
  generalize ReadE s.data.toList = Q at hfE hfO ⊢
  have hEn := hide (lex_hasEnd hR)
  clear hR hrd hall
  replace hsb := hide hsb
  go_enter Tryz.func7, Tryz.ntmps7
  go_upto_region 2 with (go_at_call 18; refine hLx.out.mono ?_; rintro e w1 ⟨⟨A, cap, rfl, hSl⟩, hb1⟩)
  obtain ⟨w2, hw2, hs2, hb2, hc2, -⟩ := box1 w1 #[.int .i64 0, .int .i64 0, .int .i64 0] 32
  rw [hw2]
  have x0 := hc2 0
  simp at x0
  have hlx : w1.heap.size < w2.heap.size := by omega
  obtain ⟨w3, hw3, hs3, hb3, hc3, -⟩ := box1 w2 #[.slice A r.length cap, .int .i64 0, .slice none 0 0, .slice none 0 0, .slice none 0 0, .bool false, .int .i64 0, .int .i64 0] 58
  have hB3 := hb1.trans ((hb2.mono hb1.size).trans (hb3.mono (by have := hb1.size; have := hb2.size; omega)))
  have k3 := bcell' hB3
  have hl0 : w.heap.size < wb.heap.size := by omega
  have hz1 := hb1.size
  have hz2 := hb2.size
  have hgg : w.heap.size + 1 < w2.heap.size := by omega
  have hS3 : Sl 6 rTk w3 w2.heap.size A r := ((hSl.below sta_tk (hb2.trans (hb3.mono (by have := hb2.size; omega)))).more sta_tk (by omega))
  have hRd : RdS w w3 w2.heap.size ⟨r, emptyN, none⟩ (.slice none 0 0) (.slice none 0 0) (.slice none 0 0) :=
   ⟨hB.out.trans (hB3.mono hB.out.size), ⟨hEn.out, A, cap, r, 0, rfl, hS3, by rw [← hw3]; exact heap_alloc_new w2 _⟩, NetN.nil_ _ _, (k3.1 _ 0 hl0).trans z0, (k3.1 _ 1 hl0).trans z1, (k3.1 _ 2 hl0).trans z2, (k3.1 _ 0 hlt).trans e0, (k3.1 _ 1 hlt).trans e1, (k3.1 _ 2 hlt).trans e2, fun i => (k3.2 _ i hl0).trans ((kb.2 _ i hla).trans (fz i)), fun i => (k3.2 _ i hlt).trans (hfb i)⟩
  replace hRd := hide hRd
  replace hs2 := hide hs2
  replace hs3 := hide hs3
  clear kb k3 hc2 hc3 hb2 hb3 hb1 hB3 hcb fz hfb hbb hLx hB z0 z1 z2 e0 e1 e2 hS3 hSl hl0 hz1 hz2
  go_upto_region 5 with fail
  clear hw2 hw3 x0 hlx hs2 hs3 hlt
  generalize w2.heap.size = g at *
  go_loopw [7, 8] (fun _ _ wr => ∃ (f : Nat) (R : Rf) (v1 v2 v3 : Value), Hid (RdS w wr g R v1 v2 v3) ∧ Hid (swsF f R = X1) ∧ Hid (R.bad = none → R.n.sw.length ≤ 8 ∧ R.n.ports.length ≤ R.n.sw.length ∧ R.l.length ≤ f ∧ R.n.links.length + R.l.length ≤ 65537)) (fun _ _ wr => leftR g wr)
  case atStart => exact ⟨r.length, ⟨r, emptyN, none⟩, _, _, _, hRd, hX1, hide (fun _ => ⟨by simp [emptyN], by simp [emptyN], Nat.le_refl _, by simpa [emptyN] using hlen⟩)⟩
  case round =>
   clear hX1 hRd
   obtain ⟨f, R, v1, v2, v3, hS, hX, hL⟩ := hrel
   have lt := hS.out.rd.lt
   obtain ⟨A1, A2, A3, c1, c2, c3, rfl, rfl, rfl, hNS⟩ := hS.out.net.netS
   clear hNS
   have hH := hide (has13r ⟨#[115, 119, 105, 116, 99, 104]⟩ hS.out.rd)
   rw [show (⟨#[115, 119, 105, 116, 99, 104]⟩ : ByteArray).data.toList = bSwitch from rfl] at hH
   cases hs : hasF bSwitch R with
   | true =>
    rw [hs] at hH
    have hb := has_ok hs
    obtain ⟨h8, h8p, hlR, hlk⟩ := hL.out hb
    obtain ⟨l, n, bad⟩ := R
    simp only at hb h8 h8p hlR hlk
    subst hb
    have hpos := List.length_pos_iff.2 hS.out.rd.1.ne
    simp only at hpos
    obtain ⟨f', rfl⟩ : ∃ f', f = f' + 1 := ⟨f - 1, by omega⟩
    have hX' : swsF f' (swF ⟨l, n, none⟩) = X1 := by rw [← hX.out, swsF, hs]; rfl
    have hnew := swF_less (n := n) hS.out.rd.1 (by rw [← has_none bSwitch l n]; exact hs)
    have hlf := hS.out.rd.left
    simp only [Option.isSome_none, Bool.false_eq_true, if_false] at hlf
    clear hX hL hs
    obtain ⟨F1, hF1⟩ : ∃ F1, F1 = failF (decide (n.sw.length < 8)) (nowF ⟨l, n, none⟩) 5 ⟨l, n, none⟩ := ⟨_, rfl⟩
    have hsw : swF ⟨l, n, none⟩ = ⟨(prtsF (failF (decide (findI n.sw ⟨(nameF (takeF F1)).1.s.toArray⟩ < 0)) (nameF (takeF F1)).1 8 (nameF (takeF F1)).2)).2.l, ⟨n.sw ++ [⟨(nameF (takeF F1)).1.s.toArray⟩], n.ports ++ [(prtsF (failF (decide (findI n.sw ⟨(nameF (takeF F1)).1.s.toArray⟩ < 0)) (nameF (takeF F1)).1 8 (nameF (takeF F1)).2)).1], n.links⟩, (prtsF (failF (decide (findI n.sw ⟨(nameF (takeF F1)).1.s.toArray⟩ < 0)) (nameF (takeF F1)).1 8 (nameF (takeF F1)).2)).2.bad⟩ := by rw [hF1]; rfl
    rw [hsw] at hX' hnew
    clear hsw
    have hd8 : decide (n.sw.length < 8) = decide ((n.sw.length : Int) < 8) := by rw [Bool.eq_iff_iff]; simp; omega
    have hF1c := hide (fun (W : World) (hW : RfB W g ⟨l, n, none⟩ (.slice A1 n.sw.length c1) (.slice A2 n.ports.length c2) (.slice A3 n.links.length c3)) => hF1 ▸ fail13r (decide (n.sw.length < 8)) (nowF ⟨l, n, none⟩) 5 hW)
    rw [hd8] at hF1c
    have hNow := hide (fun (W : World) (hW : RfB W g ⟨l, n, none⟩ (.slice A1 n.sw.length c1) (.slice A2 n.ports.length c2) (.slice A3 n.links.length c3)) => now13r hW)
    clear hF1 hd8
    generalize nowF ⟨l, n, none⟩ = t0 at hNow hF1c
    have hT := hide (fun (W : World) (hW : RfB W g F1 (.slice A1 n.sw.length c1) (.slice A2 n.ports.length c2) (.slice A3 n.links.length c3)) => take13r hW)
    have hNm := hide (fun (W : World) (hW : RfB W g (takeF F1) (.slice A1 n.sw.length c1) (.slice A2 n.ports.length c2) (.slice A3 n.links.length c3)) => (⟨name13r hW, hW.nowS⟩ : _ ∧ (nameF (takeF F1)).1.s.length ≤ 65536))
    generalize nowF F1 = tz at hT
    generalize takeF F1 = F2 at hT hNm hX' hnew
    generalize nameF F2 = x at hNm hX' hnew
    obtain ⟨t, F3⟩ := x
    simp only at hNm hX' hnew
    have hF4c := hide (fun (W : World) (hW : RfB W g F3 (.slice A1 n.sw.length c1) (.slice A2 n.ports.length c2) (.slice A3 n.links.length c3)) => fail13r (decide (findI n.sw ⟨t.s.toArray⟩ < 0)) t 8 hW)
    generalize failF (decide (findI n.sw ⟨t.s.toArray⟩ < 0)) t 8 F3 = F4 at hF4c hX' hnew
    have hPs := hide (fun (W : World) (hW : RfB W g F4 (.slice A1 n.sw.length c1) (.slice A2 n.ports.length c2) (.slice A3 n.links.length c3)) => ports13r hW)
    generalize prtsF F4 = y at hPs hX' hnew
    obtain ⟨ps, F5⟩ := y
    simp only at hPs hX' hnew
    have hFi := hide (fun (W : World) (hW : NetS W W.heap.size A1 A2 A3 n) => find13_any n A1 A2 A3 c1 c2 c3 ⟨t.s.toArray⟩ W hW)
    obtain ⟨k, s', wd, m, pl⟩ := t
    obtain ⟨k0, s0, wd0, m0, pl0⟩ := t0
    obtain ⟨kz, sz, wdz, mz, plz⟩ := tz
    unfold tkA at hNow hF1c hT hNm hF4c
    simp only at hNow hF1c hT hNm hF4c hFi hX' hnew
    have hSz : s'.length = (⟨s'.toArray⟩ : ByteArray).size := rfl
    rw [hSz] at hNm
    clear hSz
    generalize (⟨s'.toArray⟩ : ByteArray) = S at hNm hF4c hFi hX' hnew
    generalize ((m / 18446744073709551616 : Nat) : Int) = hi at hNm hF4c
    generalize ((m % 18446744073709551616 : Nat) : Int) = lo at hNm hF4c
    generalize (⟨s0.toArray⟩ : ByteArray) = S0 at hNow hF1c
    generalize ((m0 / 18446744073709551616 : Nat) : Int) = hi0 at hNow hF1c
    generalize ((m0 % 18446744073709551616 : Nat) : Int) = lo0 at hNow hF1c
    generalize (⟨sz.toArray⟩ : ByteArray) = Sz at hT
    generalize ((mz / 18446744073709551616 : Nat) : Int) = hiz at hT
    generalize ((mz % 18446744073709551616 : Nat) : Int) = loz at hT
    generalize findI n.sw S = ix at hF4c hFi
    replace hX' := hide hX'
    go_upto_region 6 with (go_at_call 19; refine hH.out.mono ?_; rintro e w4 ⟨rfl, hb4⟩)
    have hS4 := hide (hS.out.grg hgg (Grg.of hb4) (hS.out.rd.below hb4 lt) rfl)
    obtain ⟨b0, o0, cp, mm, kx, hO⟩ := hS4.out.rd.open_
    have d2 := hO.c2
    have ltr := hO.lt
    have hNd := hide (fun d os => hNow.out (Go.Sort.grow (redrawn w4 d) os) (hS4.out.rd.below (below_regrown w4 d os) hS4.out.rd.lt))
    have hgc := gcell w4
    clear hO hH hb4
    go_wp2_with fail
    refine wp_region_quiet_tail 10 (by kernel_rfl) (by kernel_rfl) ?_
    simp only [List.take_succ_cons, List.take_zero, List.drop_succ_cons, List.drop_zero]
    repeat (any_goals (first | go_big_quiet_step ((go_at_call 21; with_reducible exact Calls.regrown_of (hNd.out _ _))) | quiet_step ((go_at_call 21; with_reducible exact Calls.regrown_of (hNd.out _ _)))))
    refine wpQuiet_nil ?_
    intro w5 hw5
    go_upto_region 7 with (go_at_call 20; refine (hF1c.out _ (hS4.out.rd.below hw5 hS4.out.rd.lt)).mono ?_; rintro e w6 ⟨rfl, hG6, hR6⟩)
    have hS6 := hide (show RdS w w6 g ⟨F1.l, n, F1.bad⟩ (.slice A1 n.sw.length c1) (.slice A2 n.ports.length c2) (.slice A3 n.links.length c3) from hS4.out.grg hgg ((Grg.of hw5).trans hG6) (hR6.net n) rfl)
    replace hR6 := hide hR6
    clear d2 ltr hNd hgc hw5 hG6 hS4 hNow hF1c
    go_upto_region 8 with (go_at_call 22; refine (hT.out _ hR6.out).mono ?_; rintro e w7 ⟨rfl, hG7, hR7⟩)
    have hS7 := hide (show RdS w w7 g ⟨F2.l, n, F2.bad⟩ (.slice A1 n.sw.length c1) (.slice A2 n.ports.length c2) (.slice A3 n.links.length c3) from hS6.out.grg hgg hG7 (hR7.net n) rfl)
    obtain ⟨hNm1, hsz⟩ := hNm.out w7 hR7
    replace hNm1 := hide hNm1
    clear hG7 hR7 hR6 hS6 hT hNm
    go_upto_region 9 with (go_at_call 23; refine hNm1.out.mono ?_; rintro e w8 ⟨rfl, hG8, hR8⟩; obtain ⟨w9, hw9, hb9, hs9, hl9, x0, x1, x2, x3, x4, x5⟩ := tbox13 w8 k wd hi lo pl S)
    have hR9 := hide (hR8.below hb9.out hR8.lt)
    have hS9 := hide (show RdS w w9 g ⟨F3.l, n, F3.bad⟩ (.slice A1 n.sw.length c1) (.slice A2 n.ports.length c2) (.slice A3 n.links.length c3) from hS7.out.grg hgg (hG8.trans (Grg.of hb9.out)) (hR9.out.net n) rfl)
    have htg : w8.heap.size ≠ g := by have := hR8.lt; omega
    obtain ⟨b9, o9, cp9, mm9, kx9, hO9⟩ := hR9.out.open_
    have d2 := hO9.c2
    have d3 := hO9.c3
    have d4 := hO9.c4
    have ltr := hO9.lt
    obtain ⟨B1, B2, B3, e1, e2, e3, q1, q2, q3, hNS⟩ := hS9.out.net.netS
    injection q1 with q1 q1' q1''
    injection q2 with q2 q2' q2''
    injection q3 with q3 q3' q3''
    subst q1 q1'' q2 q2'' q3 q3''
    clear q1' q2' q3'
    have hF := hide (fun d os => hFi.out (Go.Sort.grow (redrawn w9 d) os) ((hNS.below (below_regrown w9 d os)).more (gsize w9 d os)))
    have hgc := gcell w9
    clear hG8 hR8 hw9 hb9 hs9 hNm1 hS7 hO9 hNS hFi
    go_wp2_with fail
    refine wp_region_quiet_tail 10 (by kernel_rfl) (by kernel_rfl) ?_
    simp only [List.take_succ_cons, List.take_zero, List.drop_succ_cons, List.drop_zero]
    repeat (any_goals (first | go_big_quiet_step ((go_at_call 24; with_reducible exact Calls.regrown_of (hF.out _ _))) | quiet_step ((go_at_call 24; with_reducible exact Calls.regrown_of (hF.out _ _)))))
    refine wpQuiet_nil ?_
    intro w10 hw10
    go_upto_region 10 with (go_at_call 20; refine (hF4c.out _ (hR9.out.below hw10 hR9.out.lt)).mono ?_; rintro e w11 ⟨rfl, hG11, hR11⟩)
    have hG12 := hide ((Grg.of (g := g) hw10).trans hG11)
    have hS11 := hide (show RdS w w11 g ⟨F4.l, n, F4.bad⟩ (.slice A1 n.sw.length c1) (.slice A2 n.ports.length c2) (.slice A3 n.links.length c3) from hS9.out.grg hgg hG12.out (hR11.net n) rfl)
    replace x1 := (hG12.out.cell hl9 htg).trans x1
    replace hl9 := Nat.lt_of_lt_of_le hl9 hG12.out.size
    replace hR11 := hide hR11
    clear x0 x2 x3 x4 x5 d2 d3 d4 ltr hF hgc hw10 hG11 hG12 hS9 hR9 hF4c
    go_upto_region 11 with (go_at_call 25; refine (hPs.out _ hR11.out).mono ?_; rintro e w13 ⟨⟨V, rfl, hI13⟩, hG13, hR13⟩)
    have hS13 := hide (show RdS w w13 g ⟨F5.l, n, F5.bad⟩ (.slice A1 n.sw.length c1) (.slice A2 n.ports.length c2) (.slice A3 n.links.length c3) from hS11.out.grg hgg hG13 (hR13.net n) rfl)
    replace x1 := (hG13.cell hl9 htg).trans x1
    replace hl9 := Nat.lt_of_lt_of_le hl9 hG13.size
    replace hI13 := hide (own_monoN hI13 (base' := g + 1) hR11.out.lt)
    obtain ⟨b13, o13, cp13, mm13, kx13, hO13⟩ := hR13.open_
    have d2 := hO13.c2
    have ltr := hO13.lt
    obtain ⟨v1', w14, hrun, hN14, hb14, hkI, -⟩ := append_sw13 (W := w13.drew) (g := g) S hS13.out.net.drew (by unfold maxLen; omega) (show g + 1 ≤ w13.heap.size from ltr) (show n.sw.length ≤ 1000 by omega)
    obtain ⟨C1, cc1, hC⟩ := own_formN hN14.own0
    rw [show (n.sw ++ [S]).length = n.sw.length + 1 from by simp] at hC
    subst hC
    replace hrun : (AppG #[23, 23] 23 #[.slice A1 n.sw.length c1, .slice (some ⟨w13.heap.size, 0, none⟩) 1 1]).run Tryz.prog (w13.alloc (.cells #[.string S] 9)).drew = .ok (.slice C1 (n.sw.length + 1) cc1) w14 := hrun
    have hI14 := hkI V ps hI13.out
    have hR14 := RfB.below (w := w13.drew) hR13 hb14 (Nat.lt_succ_self _)
    obtain ⟨b14, o14, cp14, mm14, kx14, hO14⟩ := hR14.open_
    have y2 := hO14.c2
    have yf := hO14.fr 2
    have ylt := hO14.lt
    have hS15 := hide (show RdS w (w14.setCell ⟨g, 2, none⟩ (.slice C1 (n.sw.length + 1) cc1)) g ⟨F5.l, ⟨n.sw ++ [S], n.ports, n.links⟩, F5.bad⟩ (.slice C1 (n.sw.length + 1) cc1) (.slice A2 n.ports.length c2) (.slice A3 n.links.length c3) from hS13.out.step hgg (((Below.refl g w13).drew.trans (hb14.mono (Nat.le_succ _))).setCell (p := ⟨g, 2, none⟩) (Nat.le_refl _) _) ((hR14.setN _).1.net _) hN14.set)
    have hI15 := hide (show IpS (w14.setCell ⟨g, 2, none⟩ (.slice C1 (n.sw.length + 1) cc1)) (g + 1) V ps from hI14.grg (Grg.set g w14 2 _) (Nat.lt_succ_self _))
    obtain ⟨w15, hw15⟩ : ∃ w15, w15 = w14.setCell ⟨g, 2, none⟩ (.slice C1 (n.sw.length + 1) cc1) := ⟨_, rfl⟩
    rw [← hw15] at hS15 hI15
    replace hw15 := hide hw15.symm
    clear hO13 hO14 hG13 hR13 hR14 hN14 hb14 hI14 hkI hS11 hR11 hS13 hPs hI13
    go_wp2_with fail
    go_region
    rw [hw15.out]
    clear hrun x1 hl9 d2 ltr y2 yf ylt hw15
    obtain ⟨b15, o15, cp15, mm15, kx15, hO15⟩ := hS15.out.rd.open_
    have d3 := hO15.c3
    have ltr := hO15.lt
    obtain ⟨v2', w16, hrun, hN16, hb16, -⟩ := append_pt13 (W := w15) (g := g) hS15.out.net hI15.out ltr (by simp only; omega)
    have hfB : ∃ A cap, v2' = .slice A (n.ports.length + 1) cap := by
     obtain ⟨vs, -, h5, -⟩ := hN16.own1
     rw [← show (n.ports ++ [ps]).length = n.ports.length + 1 from by simp]
     exact own_formN h5
    obtain ⟨C2, cc2, rfl⟩ := hfB
    obtain ⟨Ap, cpp, rfl⟩ := hI15.out.form
    have hR16 := RfB.below (w := w15) hS15.out.rd hb16 (Nat.lt_succ_self _)
    obtain ⟨b16, o16, cp16, mm16, kx16, hO16⟩ := hR16.open_
    have y3 := hO16.c3
    have yf := hO16.fr 3
    have ylt := hO16.lt
    have hS17 := hide (show RdS w (w16.setCell ⟨g, 3, none⟩ (.slice C2 (n.ports.length + 1) cc2)) g ⟨F5.l, ⟨n.sw ++ [S], n.ports ++ [ps], n.links⟩, F5.bad⟩ (.slice C1 (n.sw.length + 1) cc1) (.slice C2 (n.ports.length + 1) cc2) (.slice A3 n.links.length c3) from hS15.out.step hgg ((hb16.mono (Nat.le_succ _)).setCell (p := ⟨g, 3, none⟩) (Nat.le_refl _) _) ((hR16.setN _).2.1.net _) hN16.set)
    clear hO15 hO16 hR16 hN16 hb16 hI15 hS15
    go_wp2
    go_roundw
    case rel => exact ⟨f', _, _, _, _, hS17, hX', hide (fun hq => by
     rcases hnew with hn | ⟨hn1, hn2⟩
     ·rw [hq] at hn; cases hn
     ·exact ⟨by simp only [List.length_append, List.length_singleton]; omega, by simp only [List.length_append, List.length_singleton]; omega, by simp only; omega, by simp only; omega⟩)⟩
    case measure =>
     rw [hS17.out.rd.left, hlf]
     rcases hnew with hn | ⟨hn1, hn2⟩
     ·simp only at hn ⊢; rw [hn]; simp
     ·simp only at hn1 ⊢
      split
      ·omega
      ·omega
   | false =>
    rw [hs] at hH
    have hXe : X1 = R := by rw [← hX.out]; exact sws_stop hs
    have hX2' := hide (show lnsF R.l.length R = X2 from by rw [← hXe]; exact hX2.out)
    have hL2 := hide (fun h => (hL.out h).2.2.2)
    clear hXe hX2 hX hL hs
    go_upto_region 13 with (go_at_call 19; refine hH.out.mono ?_; rintro e w4 ⟨rfl, hb4⟩)
    have hS4 := hide (hS.out.grg hgg (Grg.of hb4) (hS.out.rd.below hb4 lt) rfl)
    clear hH hS hb4 lt
    go_loopw [9, 10, 11, 12] (fun _ _ _ _ wr => ∃ (f : Nat) (R : Rf) (v1 v2 v3 : Value), Hid (RdS w wr g R v1 v2 v3) ∧ Hid (lnsF f R = X2) ∧ Hid (R.bad = none → R.l.length ≤ f ∧ R.n.links.length + R.l.length ≤ 65537)) (fun _ _ _ _ wr => leftR g wr)
    case atStart => exact ⟨_, R, _, _, _, hS4, hX2', hide (fun h => ⟨Nat.le_refl _, hL2.out h⟩)⟩
    case round =>
     clear hX2' hS4 hL2
     clear R
     obtain ⟨f, R, v1, v2, v3, hS, hX, hL⟩ := hrel
     have lt := hS.out.rd.lt
     obtain ⟨A1, A2, A3, c1, c2, c3, rfl, rfl, rfl, hNS⟩ := hS.out.net.netS
     clear hNS
     have hH := hide (has13r ⟨#[108, 105, 110, 107]⟩ hS.out.rd)
     rw [show (⟨#[108, 105, 110, 107]⟩ : ByteArray).data.toList = bLink from rfl] at hH
     cases hs : hasF bLink R with
     | true =>
      rw [hs] at hH
      have hb := has_ok hs
      obtain ⟨hlR, hlk⟩ := hL.out hb
      obtain ⟨l, n, bad⟩ := R
      simp only at hb hlR hlk
      subst hb
      have hpos := List.length_pos_iff.2 hS.out.rd.1.ne
      simp only at hpos
      obtain ⟨f', rfl⟩ : ∃ f', f = f' + 1 := ⟨f - 1, by omega⟩
      have hX' : lnsF f' (lnF ⟨l, n, none⟩) = X2 := by rw [← hX.out, lnsF, hs]; rfl
      have hnew := lnF_less (n := n) hS.out.rd.1 (by rw [← has_none bLink l n]; exact hs)
      have hlf := hS.out.rd.left
      simp only [Option.isSome_none, Bool.false_eq_true, if_false] at hlf
      clear hX hL hs
      obtain ⟨F1, hF1⟩ : ∃ F1, takeF ⟨l, n, none⟩ = F1 := ⟨_, rfl⟩
      have hn1 : F1.n = n := by rw [← hF1, takeF_n]
      have hn2 : (endF F1).2.2.n = n := by rw [endF_n, hn1]
      have hln : lnF ⟨l, n, none⟩ = ⟨(wantF bSemi (failF (!decide ((endF F1).2.1 = (endF (endF F1).2.2).2.1)) (endF (endF F1).2.2).1 8 (endF (endF F1).2.2).2.2)).l, ⟨n.sw, n.ports, n.links ++ [((endF F1).2.1, (endF (endF F1).2.2).2.1)]⟩, (wantF bSemi (failF (!decide ((endF F1).2.1 = (endF (endF F1).2.2).2.1)) (endF (endF F1).2.2).1 8 (endF (endF F1).2.2).2.2)).bad⟩ := by
       rw [← hF1]
       unfold lnF
       simp only [wantF_n, failF_n, endF_n, takeF_n]
      rw [hln] at hX' hnew
      clear hln
      have hT := hide (fun (W : World) (hW : RfB W g ⟨l, n, none⟩ (.slice A1 n.sw.length c1) (.slice A2 n.ports.length c2) (.slice A3 n.links.length c3)) => hF1 ▸ take13r hW)
      generalize nowF ⟨l, n, none⟩ = tz at hT
      clear hF1
      have hE1 := hide (fun (W : World) (hW : RfB W g F1 (.slice A1 n.sw.length c1) (.slice A2 n.ports.length c2) (.slice A3 n.links.length c3)) (hN : NetN W g (.slice A1 n.sw.length c1) (.slice A2 n.ports.length c2) (.slice A3 n.links.length c3) n) => end13r hW (hn1.symm ▸ hN))
      generalize endF F1 = x at hE1 hX' hnew hn2
      obtain ⟨ta, ea, F2⟩ := x
      simp only at hE1 hX' hnew hn2
      have hE2 := hide (fun (W : World) (hW : RfB W g F2 (.slice A1 n.sw.length c1) (.slice A2 n.ports.length c2) (.slice A3 n.links.length c3)) (hN : NetN W g (.slice A1 n.sw.length c1) (.slice A2 n.ports.length c2) (.slice A3 n.links.length c3) n) => end13r hW (hn2.symm ▸ hN))
      generalize endF F2 = x at hE2 hX' hnew
      obtain ⟨tb, eb, F3⟩ := x
      simp only at hE2 hX' hnew
      have hF4c := hide (fun (W : World) (hW : RfB W g F3 (.slice A1 n.sw.length c1) (.slice A2 n.ports.length c2) (.slice A3 n.links.length c3)) => fail13r (!decide (ea = eb)) tb 8 hW)
      generalize failF (!decide (ea = eb)) tb 8 F3 = F4 at hF4c hX' hnew
      have hW5 := hide (fun (W : World) (hW : RfB W g F4 (.slice A1 n.sw.length c1) (.slice A2 n.ports.length c2) (.slice A3 n.links.length c3)) => show Calls Tryz.prog 27 #[.pointer (some ⟨g, 0, none⟩), .string ⟨#[59]⟩] W fun e w' => e = .returned (.tuple #[]) ∧ Grg g W w' ∧ RfB w' g (wantF bSemi F4) (.slice A1 n.sw.length c1) (.slice A2 n.ports.length c2) (.slice A3 n.links.length c3) from want13r ⟨#[59]⟩ hW)
      generalize wantF bSemi F4 = F5 at hW5 hX' hnew
      replace hX' := hide hX'
      obtain ⟨kz, sz, wdz, mz, plz⟩ := tz
      obtain ⟨k, s', wd, m, pl⟩ := ta
      obtain ⟨k2, s2, wd2, m2, pl2⟩ := tb
      unfold tkA at hT hE1 hE2 hF4c
      simp only at hT hE1 hE2 hF4c
      generalize (⟨sz.toArray⟩ : ByteArray) = Sz at hT
      generalize ((mz / 18446744073709551616 : Nat) : Int) = hiz at hT
      generalize ((mz % 18446744073709551616 : Nat) : Int) = loz at hT
      generalize (⟨s'.toArray⟩ : ByteArray) = S at hE1
      generalize ((m / 18446744073709551616 : Nat) : Int) = hi at hE1
      generalize ((m % 18446744073709551616 : Nat) : Int) = lo at hE1
      generalize (⟨s2.toArray⟩ : ByteArray) = S2 at hE2 hF4c
      generalize ((m2 / 18446744073709551616 : Nat) : Int) = hi2 at hE2 hF4c
      generalize ((m2 % 18446744073709551616 : Nat) : Int) = lo2 at hE2 hF4c
      go_upto_region 14 with (go_at_call 19; refine hH.out.mono ?_; rintro e w4 ⟨rfl, hb4⟩)
      have hS4 := hide (hS.out.grg hgg (Grg.of hb4) (hS.out.rd.below hb4 lt) rfl)
      clear hH hb4
      go_upto_region 15 with (go_at_call 22; refine (hT.out _ hS4.out.rd).mono ?_; rintro e w5 ⟨rfl, hG5, hR5⟩)
      have hS5 := hide (show RdS w w5 g ⟨F1.l, n, F1.bad⟩ (.slice A1 n.sw.length c1) (.slice A2 n.ports.length c2) (.slice A3 n.links.length c3) from hS4.out.grg hgg hG5 (hR5.net n) rfl)
      replace hR5 := hide hR5
      clear hG5 hS4 hT
      go_upto_region 16 with (go_at_call 26; refine (hE1.out _ hR5.out hS5.out.net).mono ?_; rintro e w6 ⟨rfl, hG6, hR6⟩)
      obtain ⟨w7, hw7, hb7, hs7, hl7, -⟩ := tbox13 w6 k wd hi lo pl S
      obtain ⟨w8, hw8, hs8, hb8, hc8, -⟩ := box1 w7 #[.int .i64 ea.1, .int .i64 ea.2] 41
      rw [hw7, hw8, ← hs7.out]
      have e0 := hc8 0
      have e1 := hc8 1
      simp at e0 e1
      have hR8 := hide ((hR6.below hb7.out hR6.lt).below hb8 (by have := hR6.lt; omega))
      have hS8 := hide (show RdS w w8 g ⟨F2.l, n, F2.bad⟩ (.slice A1 n.sw.length c1) (.slice A2 n.ports.length c2) (.slice A3 n.links.length c3) from hS5.out.grg hgg (hG6.trans ((Grg.of hb7.out).trans (Grg.of hb8))) (hR8.out.net n) rfl)
      have hle : w7.heap.size < w8.heap.size := by omega
      have hne : w7.heap.size ≠ g := by have := hR6.lt; omega
      clear hG6 hR6 hw7 hb7 hs7 hl7 hw8 hs8 hb8 hc8 hE1 hS5 hR5
      go_upto_region 17 with (go_at_call 26; refine (hE2.out _ hR8.out hS8.out.net).mono ?_; rintro e w9 ⟨rfl, hG9, hR9⟩)
      obtain ⟨w10, hw10, hb10, hs10, hl10, x0, x1, x2, x3, x4, x5⟩ := tbox13 w9 k2 wd2 hi2 lo2 pl2 S2
      obtain ⟨w11, hw11, hs11, hb11, hc11, -⟩ := box1 w10 #[.int .i64 eb.1, .int .i64 eb.2] 41
      rw [hw10, hw11, ← hs10.out]
      have f0 := hc11 0
      have f1 := hc11 1
      simp at f0 f1
      have kk := bcell' hb11
      replace x0 := (kk.1 _ 0 hl10).trans x0
      replace x1 := (kk.1 _ 1 hl10).trans x1
      replace x2 := (kk.1 _ 2 hl10).trans x2
      replace x3 := (kk.1 _ 3 hl10).trans x3
      replace x4 := (kk.1 _ 4 hl10).trans x4
      replace x5 := (kk.1 _ 5 hl10).trans x5
      have hG11 := hide (hG9.trans ((Grg.of (g := g) hb10.out).trans (Grg.of hb11)))
      replace e0 := (hG11.out.cell hle hne).trans e0
      replace e1 := (hG11.out.cell hle hne).trans e1
      have hR11 := hide ((hR9.below hb10.out hR9.lt).below hb11 (by have := hR9.lt; omega))
      have hS11 := hide (show RdS w w11 g ⟨F3.l, n, F3.bad⟩ (.slice A1 n.sw.length c1) (.slice A2 n.ports.length c2) (.slice A3 n.links.length c3) from hS8.out.grg hgg hG11.out (hR11.out.net n) rfl)
      have hlf' : w10.heap.size < w11.heap.size := by omega
      have hnf : w10.heap.size ≠ g := by have := hR9.lt; omega
      replace hle := Nat.lt_of_lt_of_le hle hG11.out.size
      replace hl10 := Nat.lt_of_lt_of_le hl10 hb11.size
      clear kk hG9 hR9 hw10 hb10 hs10 hw11 hs11 hb11 hc11 hE2 hS8 hR8 hG11
      have hgc := gcell w11
      obtain ⟨a1, a2⟩ := ea
      obtain ⟨b1, b2⟩ := eb
      simp only at e0 e1 f0 f1
      go_wp2_with fail
      go_cut [] (fun wx => Hid (Grg g w11 wx) ∧ Hid (RfB wx g F4 (.slice A1 n.sw.length c1) (.slice A2 n.ports.length c2) (.slice A3 n.links.length c3)))
      case first =>
       by_cases h1 : a1 = b1
       ·by_cases h2 : a2 = b2
        ·subst h1 h2
         simp only [decide_true, Bool.not_true] at hF4c
         refine wp_region_quiet_tail 5 (by kernel_rfl) (by kernel_rfl) ?_
         simp only [List.take_succ_cons, List.take_zero, List.drop_succ_cons, List.drop_zero]
         repeat (any_goals (first | go_big_quiet_step (fail) | quiet_step (fail)))
         refine wpQuiet_nil ?_
         intro w12 hw12
         go_wp2_with (go_at_call 20; refine (hF4c.out _ (hR11.out.below hw12 hR11.out.lt)).mono ?_; rintro e w13 ⟨rfl, hG13, hR13⟩)
         go_meet
         exact ⟨hide ((Grg.of hw12).trans hG13), hide hR13⟩
        ·rw [decide_eq_false (fun h => h2 (congrArg Prod.snd h)), Bool.not_false] at hF4c
         have h2b : (a2 = b2) = False := eq_false h2
         have h2c : (a2 == b2) = false := beq_eq_false_iff_ne.2 h2
         have h2d : decide (a2 = b2) = false := decide_eq_false h2
         subst h1
         refine wp_region_quiet_tail 5 (by kernel_rfl) (by kernel_rfl) ?_
         simp only [List.take_succ_cons, List.take_zero, List.drop_succ_cons, List.drop_zero]
         repeat (any_goals (first | go_big_quiet_step (fail) | quiet_step (fail)))
         refine wpQuiet_nil ?_
         intro w12 hw12
         go_wp2_with (go_at_call 20; refine (hF4c.out _ (hR11.out.below hw12 hR11.out.lt)).mono ?_; rintro e w13 ⟨rfl, hG13, hR13⟩)
         go_meet
         exact ⟨hide ((Grg.of hw12).trans hG13), hide hR13⟩
       ·rw [decide_eq_false (fun h => h1 (congrArg Prod.fst h)), Bool.not_false] at hF4c
        have h1b : (a1 = b1) = False := eq_false h1
        have h1c : (a1 == b1) = false := beq_eq_false_iff_ne.2 h1
        have h1d : decide (a1 = b1) = false := decide_eq_false h1
        refine wp_region_quiet_tail 5 (by kernel_rfl) (by kernel_rfl) ?_
        simp only [List.take_succ_cons, List.take_zero, List.drop_succ_cons, List.drop_zero]
        repeat (any_goals (first | go_big_quiet_step (fail) | quiet_step (fail)))
        refine wpQuiet_nil ?_
        intro w12 hw12
        go_wp2_with (go_at_call 20; refine (hF4c.out _ (hR11.out.below hw12 hR11.out.lt)).mono ?_; rintro e w13 ⟨rfl, hG13, hR13⟩)
        go_meet
        exact ⟨hide ((Grg.of hw12).trans hG13), hide hR13⟩
      case rest =>
       obtain ⟨hGc, hR13⟩ := hcut
       obtain ⟨w13, rfl⟩ : ∃ w13 : World, w13 = wc := ⟨_, rfl⟩
       replace e0 := (hGc.out.cell hle hne).trans e0
       replace e1 := (hGc.out.cell hle hne).trans e1
       replace f0 := (hGc.out.cell hlf' hnf).trans f0
       replace f1 := (hGc.out.cell hlf' hnf).trans f1
       have hS13 := hide (show RdS w w13 g ⟨F4.l, n, F4.bad⟩ (.slice A1 n.sw.length c1) (.slice A2 n.ports.length c2) (.slice A3 n.links.length c3) from hS11.out.grg hgg hGc.out (hR13.out.net n) rfl)
       replace hle := Nat.lt_of_lt_of_le hle hGc.out.size
       replace hlf' := Nat.lt_of_lt_of_le hlf' hGc.out.size
       clear hGc hS11 hR11 x0 x1 x2 x3 x4 x5 hl10 hgc hF4c
       go_upto_region 19 with (go_at_call 27; refine (hW5.out _ hR13.out).mono ?_; rintro e w14 ⟨rfl, hG14, hR14⟩)
       have hS14 := hide (show RdS w w14 g ⟨F5.l, n, F5.bad⟩ (.slice A1 n.sw.length c1) (.slice A2 n.ports.length c2) (.slice A3 n.links.length c3) from hS13.out.grg hgg hG14 (hR14.net n) rfl)
       replace e0 := (hG14.cell hle hne).trans e0
       replace e1 := (hG14.cell hle hne).trans e1
       replace f0 := (hG14.cell hlf' hnf).trans f0
       replace f1 := (hG14.cell hlf' hnf).trans f1
       replace hle := Nat.lt_of_lt_of_le hle hG14.size
       replace hlf' := Nat.lt_of_lt_of_le hlf' hG14.size
       obtain ⟨b9, o9, cp9, mm9, kx9, hO9⟩ := hR14.open_
       have d4 := hO9.c4
       have ltr := hO9.lt
       obtain ⟨v3', wA, hrun1, hNA, hbA⟩ := append_ln13 (W := w14.drew) (g := g) (a1, a2) (b1, b2) hS14.out.net.drew (show g + 1 ≤ w14.heap.size from ltr) (show n.links.length ≤ 100000 by omega)
       have hfA : ∃ A cap, v3' = .slice A (n.links.length + 1) cap := by
        rw [← show (n.links ++ [((a1, a2), (b1, b2))]).length = n.links.length + 1 from by simp]
        exact own_formN hNA.own2
       obtain ⟨C3, k3, rfl⟩ := hfA
       replace hrun1 : (AppG #[25, 25] 25 #[.slice A3 n.links.length c3, .slice (some ⟨w14.heap.size, 0, none⟩) 1 1]).run Tryz.prog (w14.alloc (.cells #[.int .i64 a1, .int .i64 a2, .int .i64 b1, .int .i64 b2] 72)).drew = .ok (.slice C3 (n.links.length + 1) k3) wA := hrun1
       have hRA := RfB.below (w := w14.drew) hR14 hbA (Nat.lt_succ_self _)
       obtain ⟨bA, oA, cpA, mmA, kxA, hOA⟩ := hRA.open_
       have y3 := hOA.c4
       have yf := hOA.fr 4
       have yl := hOA.lt
       have hAN := hide (show RdS w (wA.setCell ⟨g, 4, none⟩ (.slice C3 (n.links.length + 1) k3)) g ⟨F5.l, ⟨n.sw, n.ports, n.links ++ [((a1, a2), (b1, b2))]⟩, F5.bad⟩ (.slice A1 n.sw.length c1) (.slice A2 n.ports.length c2) (.slice C3 (n.links.length + 1) k3) from hS14.out.step hgg (((Below.refl g w14).drew.trans (hbA.mono (Nat.le_succ _))).setCell (p := ⟨g, 4, none⟩) (Nat.le_refl _) _) ((hRA.setN _).2.2.net _) hNA.set)
       clear hO9 hOA hRA hNA hbA hS14 hS13 hG14 hR14 hR13 hW5
       go_wp2_with fail
       go_region
       go_wp2
       go_roundw
       case rel => exact ⟨f', _, _, _, _, hAN, hX', hide (fun hq => by
        rcases hnew with hn | hn1
        ·rw [hq] at hn; cases hn
        ·exact ⟨by simp only; omega, by simp only [List.length_append, List.length_singleton]; omega⟩)⟩
       case measure =>
        rw [hAN.out.rd.left, hlf]
        rcases hnew with hn | hn1
        ·simp only at hn ⊢; rw [hn]; simp
        ·simp only at hn1 ⊢
         split
         ·omega
         ·omega
     | false =>
      rw [hs] at hH
      have hXe : X2 = R := by rw [← hX.out]; exact lns_stop hs
      rw [hXe] at her hfE hfO
      have hF := hide (fun (W : World) (hW : RfB W g R (.slice A1 R.n.sw.length c1) (.slice A2 R.n.ports.length c2) (.slice A3 R.n.links.length c3)) => fail13r ((nowF R).kind == 0) (nowF R) 4 hW)
      have hNow := hide (fun (W : World) (hW : RfB W g R (.slice A1 R.n.sw.length c1) (.slice A2 R.n.ports.length c2) (.slice A3 R.n.links.length c3)) => now13r hW)
      have hRn := failF_n ((nowF R).kind == 0) (nowF R) 4 R
      clear hXe hX hL hs
      generalize failF ((nowF R).kind == 0) (nowF R) 4 R = RF at hF her hfE hfO hRn
      generalize nowF R = t at hNow hF
      obtain ⟨k, s', wd, m, pl⟩ := t
      have hkk : (k == 0) = ((k : Int) == 0) := by rw [Bool.eq_iff_iff]; simp
      unfold tkA at hNow hF
      simp only at hNow hF
      rw [hkk] at hF
      clear hkk
      generalize (⟨s'.toArray⟩ : ByteArray) = S at hNow hF
      generalize ((m / 18446744073709551616 : Nat) : Int) = hi at hNow hF
      generalize ((m % 18446744073709551616 : Nat) : Int) = lo at hNow hF
      have hfs : ∀ W, (Instr.field 64 (.agg #[.int .u8 (k : Int), .string S, .int .i64 (wd : Int), .int .u64 hi, .int .u64 lo, .int .i64 (pl : Int)]) 0).run Tryz.prog W = .ok (.int .u8 (k : Int)) W := fun _ => by kernel_rfl
      go_upto_region 20 with (go_at_call 19; refine hH.out.mono ?_; rintro e w4 ⟨rfl, hb4⟩)
      have hS4 := hide (hS.out.grg hgg (Grg.of hb4) (hS.out.rd.below hb4 lt) rfl)
      clear hH hb4 hS
      go_upto_region 21 with (first
       | (go_at_call 21; refine (hNow.out _ (hS4.out.rd.below hb5 hS4.out.rd.lt)).mono ?_; rintro e w6 ⟨rfl, hb6⟩; have hb7 := hb5.trans (hb6.mono hb5.size))
       | (go_at_call 21; refine (hNow.out _ hS4.out.rd).mono ?_; rintro e w5 ⟨rfl, hb5⟩)
       | (go_at_call 20; refine (hF.out _ (hS4.out.rd.below hb7 hS4.out.rd.lt)).mono ?_; rintro e w7 ⟨rfl, hG7, hR7⟩))
      have hS7 := hide (show RdS w w7 g ⟨RF.l, R.n, RF.bad⟩ (.slice A1 R.n.sw.length c1) (.slice A2 R.n.ports.length c2) (.slice A3 R.n.links.length c3) from hS4.out.grg hgg ((Grg.of hb7).trans hG7) (hR7.net _) rfl)
      obtain ⟨b9, o9, cp9, mm9, kx9, hO9⟩ := hR7.open_
      have ltr := hO9.lt
      have d2 := hO9.c2
      have d3 := hO9.c3
      have d4 := hO9.c4
      have d5 := hO9.c5
      have d6 := hO9.c6
      have d7 := hO9.c7
      obtain ⟨hbel, -, hnet, z0, z1, z2, e0, e1, e2, fz, fe⟩ := hS7.out
      have g0 := fz 0
      have g1 := fz 1
      have g2 := fz 2
      have j0 := fe 0
      have j1 := fe 1
      have j2 := fe 2
      replace hbel := hide hbel
      replace hnet := hide hnet
      have hlw0 : w.heap.size < w7.heap.size := by omega
      have hlw1 : w.heap.size + 1 < w7.heap.size := by omega
      have n1 : g ≠ w.heap.size := by omega
      have n2 : g ≠ w.heap.size + 1 := by omega
      have n3 : w.heap.size ≠ w.heap.size + 1 := by omega
      have n4 : w.heap.size + 1 ≠ w.heap.size := by omega
      have n5 : w.heap.size ≠ g := by omega
      have n6 : w.heap.size + 1 ≠ g := by omega
      clear hO9 hS7 fz fe hb5 hb6 hb7 hG7 hR7 hS4 hF hNow hfs
      cases hbad : RF.bad with
      | some x =>
       obtain ⟨x, pk⟩ := x
       have hans : ansF RF = .error (x, pk) := by unfold ansF; rw [hbad]
       obtain ⟨hx0, hxk⟩ := her.out _ hans
       have hfin := hide (fun W => hfE.out W _ hans)
       simp only [hbad, wrN, atN, Option.isSome_some, Option.getD_some] at d5 d6 d7
       have hFl := hide (fun d os => fault02_any s pk x (Go.Sort.grow (redrawn w7 d) os) hxk (by omega) hx0)
       unfold faultV at hFl hfin
       simp only at hfin hx0 hxk
       generalize (((placeR (s.data.toList.take pk)).1 : Nat) : Int) = pl1 at hFl hfin
       generalize (((placeR (s.data.toList.take pk)).2 : Nat) : Int) = pc1 at hFl hfin
       have hgc := gcell w7
       clear hans hbad her hfE hfO hRn
       go_wp2_with fail
       refine wp_region_quiet_tail 11 (by kernel_rfl) (by kernel_rfl) ?_
       simp only [List.take_succ_cons, List.take_zero, List.drop_succ_cons, List.drop_zero]
       repeat (any_goals (first | go_big_quiet_step ((go_at_call 28; with_reducible exact Calls.regrown_of (hFl.out _ _))) | quiet_step ((go_at_call 28; with_reducible exact Calls.regrown_of (hFl.out _ _)))))
       refine wpQuiet_nil ?_
       intro w8 hw8
       have kk := bcell' hw8
       replace z0 := (kk.1 _ 0 hlw0).trans z0
       replace z1 := (kk.1 _ 1 hlw0).trans z1
       replace z2 := (kk.1 _ 2 hlw0).trans z2
       replace e0 := (kk.1 _ 0 hlw1).trans e0
       replace e1 := (kk.1 _ 1 hlw1).trans e1
       replace e2 := (kk.1 _ 2 hlw1).trans e2
       replace g0 := (kk.2 _ 0 hlw0).trans g0
       replace g1 := (kk.2 _ 1 hlw0).trans g1
       replace g2 := (kk.2 _ 2 hlw0).trans g2
       replace j0 := (kk.2 _ 0 hlw1).trans j0
       replace j1 := (kk.2 _ 1 hlw1).trans j1
       replace j2 := (kk.2 _ 2 hlw1).trans j2
       have hBf := hide (hbel.out.trans (hw8.mono hbel.out.size))
       replace hlw0 := Nat.lt_of_lt_of_le hlw0 hw8.size
       replace hlw1 := Nat.lt_of_lt_of_le hlw1 hw8.size
       clear kk hw8 hgc hFl
       go_wp2
       have q := hide ((((((hBf.out.setCell (p := ⟨w.heap.size, 0, none⟩) (Nat.le_refl _) (.slice none 0 0)).setCell (p := ⟨w.heap.size, 1, none⟩) (Nat.le_refl _) (.slice none 0 0)).setCell (p := ⟨w.heap.size, 2, none⟩) (Nat.le_refl _) (.slice none 0 0)).setCell (p := ⟨w.heap.size + 1, 0, none⟩) (Nat.le_succ _) (.int .i64 x)).setCell (p := ⟨w.heap.size + 1, 1, none⟩) (Nat.le_succ _) (.int .i64 pl1)).setCell (p := ⟨w.heap.size + 1, 2, none⟩) (Nat.le_succ _) (.int .i64 pc1))
       refine bodyPost_ret (v := .tuple #[.agg #[.slice none 0 0, .slice none 0 0, .slice none 0 0], .agg #[.int .i64 x, .int .i64 pl1, .int .i64 pc1]]) ?_ rfl ⟨hfin.out _, q.out⟩
       simp [results, Tryz.results7, go_sem, z0, z1, z2, e0, e1, e2, n3, n4]
      | none =>
       have hans : ansF RF = .ok R.n := by unfold ansF; rw [hbad]; exact congrArg _ hRn
       have hfin := hide (fun W => hfO.out W _ hans)
       simp only [hbad, Option.isSome_none] at d5
       clear hans hbad her hfE hfO hRn d6 d7
       have hq := hide (fun (a b c d e f : Value) => (⟨(((((hbel.out.setCell (p := ⟨w.heap.size, 0, none⟩) (Nat.le_refl _) a).setCell (p := ⟨w.heap.size, 1, none⟩) (Nat.le_refl _) b).setCell (p := ⟨w.heap.size, 2, none⟩) (Nat.le_refl _) c).setCell (p := ⟨w.heap.size + 1, 0, none⟩) (Nat.le_succ _) d).setCell (p := ⟨w.heap.size + 1, 1, none⟩) (Nat.le_succ _) e).setCell (p := ⟨w.heap.size + 1, 2, none⟩) (Nat.le_succ _) f, setB hnet.out (by omega) hgg a b c d e f⟩ : _ ∧ _))
       go_wp2
       obtain ⟨hq1, hq2⟩ := hq.out (.slice A1 R.n.sw.length c1) (.slice A2 R.n.ports.length c2) (.slice A3 R.n.links.length c3) (.int .i64 0) (.int .i64 0) (.int .i64 0)
       obtain ⟨B1, B2, B3, e1', e2', e3', q1, q2, q3, hNS⟩ := hq2.netS
       injection q1 with q1 q1' q1''
       injection q2 with q2 q2' q2''
       injection q3 with q3 q3' q3''
       subst q1 q1'' q2 q2'' q3 q3''
       replace hfin := hide (hfin.out _ A1 A2 A3 c1 c2 c3 hNS)
       unfold noFault at hfin
       refine bodyPost_ret (v := .tuple #[.agg #[.slice A1 R.n.sw.length c1, .slice A2 R.n.ports.length c2, .slice A3 R.n.links.length c3], .agg #[.int .i64 0, .int .i64 0, .int .i64 0]]) ?_ rfl ⟨hfin.out, hq1⟩
       simp [results, Tryz.results7, go_sem, z0, z1, z2, e0, e1, e2, n3, n4]
end Go.Proofs.YtbjokgnnklcbcaaGreatDoor

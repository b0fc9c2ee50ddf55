import Derived.Test.YtmfpbahifhndjaaGreatLow32
import Derived.Test.YtmfpbahifhndjaaGreatLow13
set_option linter.all false
/-! Layer 10: a function value that marks, asked of each of some. -/
set_option linter.all false
namespace Go.Proofs.YtmfpbahifhndjaaGreat
open Go.RowKit
theorem anyD_app (d : NN → Int → Bool × NN) : ∀ (a b : List Int) (M : NN), anyD d M (a ++ b) = if (anyD d M a).1 = true then anyD d M a else anyD d (anyD d M a).2 b
 | [], b, M => by simp [anyD]
 | x :: a, b, M => by
  simp only [List.cons_append, anyD]
  by_cases h : (d M x).1 = true
  ·simp [h]
  ·simp only [if_neg h]; exact anyD_app d a b _
theorem anyD_step {d : NN → Int → Bool × NN} {xs : List Int} {k : Nat} {M Mk : NN} (hk : k < xs.length) (h : anyD d M (xs.take k) = (false, Mk)) : anyD d M (xs.take (k + 1)) = d Mk xs[k] := by
 rw [List.take_succ_eq_append_getElem hk, anyD_app, h]
 simp only [Bool.false_eq_true, if_false, anyD]
 by_cases h2 : (d Mk xs[k]).1 = true
 ·rw [if_pos h2]; exact Prod.ext h2.symm rfl
 ·rw [if_neg h2]; exact Prod.ext (by simpa using h2) rfl
theorem anyD_true {d : NN → Int → Bool × NN} {xs : List Int} {k : Nat} {M M' : NN} (h : anyD d M (xs.take k) = (true, M')) : anyD d M xs = (true, M') := by
 have : xs = xs.take k ++ xs.drop k := (List.take_append_drop k xs).symm
 rw [this, anyD_app, h]; rfl
/-- No mark is below nought, and so many are unmarked at most. -/
def MkO (n F : Nat) (M : NN) : Prop := (∀ j, 0 ≤ lkI M j) ∧ white n M ≤ F
theorem mkO_put {n F : Nat} {M : NN} {i v : Int} (h : MkO n F M) (hv : 0 < v) : MkO n F (ptI M i v) := by
 refine ⟨fun j => ?_, Nat.le_trans (white_mono fun j hj => ?_) h.2⟩
 ·rw [lk_pt]; split
  ·omega
  ·exact h.1 j
 ·rw [lk_pt] at hj
  split at hj
  ·omega
  ·exact hj
theorem anyD_ok2 {n F : Nat} {d : NN → Int → Bool × NN} : ∀ (l : List Int) (M : NN), MkO n F M → (∀ x ∈ l, ∀ M, MkO n F M → MkO n F (d M x).2) → MkO n F (anyD d M l).2
 | [], M, h, _ => h
 | x :: l, M, h, hd => by
  simp only [anyD]
  have hx := hd x (by simp) M h
  split
  ·exact hx
  ·exact anyD_ok2 l _ hx fun y hy => hd y (by simp [hy])
theorem dnD_ok2 {n : Nat} (g : Int → List Int) : ∀ (f F : Nat) (M : NN) (i : Int), MkO n F M → MkO n F (dnD g f M i).2
 | 0, F, M, i, h => h
 | f + 1, F, M, i, h => by
  simp only [dnD]
  split
  ·exact h
  ·split
   ·exact h
   ·exact mkO_put (anyD_ok2 _ _ (mkO_put h (by omega)) fun x _ M hM => dnD_ok2 g f F M x hM) (by omega)
/-- A function value that marks: what d does. -/
def FnD (mb : Nat) (fid : Nat) (lb : Array Value) (d : NN → Int → Bool × NN) (I : NN → Prop) (xs : List Int) (w : World) : Prop :=
 ∀ (x : Int) (W : World) (M : NN), x ∈ xs → Gr mb w W → NmS W mb M → I M → Calls Tryz.prog fid (#[.int .i64 x] ++ lb) W fun e w' => e = .returned (.bool (d M x).1) ∧ NmS w' mb (d M x).2 ∧ Gr mb W w' ∧ I (d M x).2
set_option maxHeartbeats 2000000 in
theorem indexD_any (fid : Nat) (lb : Array Value) (eg : ∀ args w, (callFunc fid args).run Tryz.prog w = .ok (.enter fid args) w) (mb : Nat) (d : NN → Int → Bool × NN) (I : NN → Prop) (M : NN) (A : Option Addr) (cap : Nat) (xs : List Int) (w : World) (h : Sl 1 rInt w w.heap.size A xs) (hne : ∀ b o, A = some ⟨b, o, none⟩ → b ≠ mb) (hM : NmS w mb M) (hI : I M) (hf : FnD mb fid lb d I xs w) :
  Calls Tryz.prog 88 #[.slice A xs.length cap, .func (.func fid) #[] lb] w fun e w' => ∃ r : Int, e = .returned (.int .i64 r) ∧ decide (0 ≤ r) = (anyD d M xs).1 ∧ NmS w' mb (anyD d M xs).2 ∧ Gr mb w w' := by
 have hl := h.len
 replace hf := hide hf
 go_enter Tryz.func88, Tryz.ntmps88
 go_wp2
 go_loopw [5, 8] (fun _ i wr => ∃ (k : Nat) (Mk : NN), k ≤ xs.length ∧ i = .int .i64 k ∧ Hid (anyD d M (xs.take k) = (false, Mk)) ∧ Hid (NmS wr mb Mk) ∧ Hid (I Mk) ∧ Hid (Gr mb w wr)) (fun _ i _ => xs.length - (intOf i).toNat)
 case atStart => exact ⟨0, M, Nat.zero_le _, rfl, hide rfl, hide hM, hide hI, hide (Gr.refl _ _)⟩
 case round =>
  obtain ⟨k, Mk, hk, rfl, hc, hN, hIk, hG⟩ := hrel
  by_cases hlt : k < xs.length
  ·obtain ⟨b, o, rfl, hb, hcell⟩ := h.int hlt
   have hltz : (k : Int) < (xs.length : Int) := by omega
   have hbne := hne b o rfl
   have hcr := (hG.out.cell (i := o + k) hb hbne).trans hcell
   have hcall := hf.out xs[k] wr Mk (List.getElem_mem _) hG.out hN.out hIk.out
   have hst := hide (anyD_step hlt hc.out)
   clear h hne hcell
   generalize d Mk xs[k] = r at hcall hst
   obtain ⟨r, M'⟩ := r
   simp only at hcall
   cases r with
   | true =>
    have hv := hide (anyD_true hst.out)
    replace hcall := hide hcall
    go_wp2_with (go_at_fn fid; refine hcall.out.mono ?_; rintro e w' ⟨rfl, hN', hG', hI'⟩)
    go_ret
    refine ⟨(k : Int), rfl, ?_, ?_, hG.out.trans hG'⟩
    ·rw [hv.out]; simp
    ·rw [hv.out]; exact hN'
   | false =>
    replace hcall := hide hcall
    go_wp2_with (go_at_fn fid; refine hcall.out.mono ?_; rintro e w' ⟨rfl, hN', hG', hI'⟩)
    go_roundw
    case rel => exact ⟨k + 1, M', by omega, by go_num, hst, hide hN', hide hI', hide (hG.out.trans hG')⟩
    case measure => simp [intOf]; omega
  ·have hke : k = xs.length := by omega
   rw [hke, List.take_length] at hc
   go_wp2
   go_ret
   refine ⟨-1, rfl, ?_, ?_, hG.out⟩
   ·rw [hc.out]; rfl
   ·rw [hc.out]; exact hN.out
set_option maxHeartbeats 1000000 in
theorem containsD_any (fid : Nat) (lb : Array Value) (eg : ∀ args w, (callFunc fid args).run Tryz.prog w = .ok (.enter fid args) w) (mb : Nat) (d : NN → Int → Bool × NN) (I : NN → Prop) (M : NN) (A : Option Addr) (cap : Nat) (xs : List Int) (w : World) (h : Sl 1 rInt w w.heap.size A xs) (hne : ∀ b o, A = some ⟨b, o, none⟩ → b ≠ mb) (hM : NmS w mb M) (hI : I M) (hf : FnD mb fid lb d I xs w) :
  Calls Tryz.prog 55 #[.slice A xs.length cap, .func (.func fid) #[] lb] w fun e w' => e = .returned (.bool (anyD d M xs).1) ∧ NmS w' mb (anyD d M xs).2 ∧ Gr mb w w' := by
 have hX := hide (indexD_any fid lb eg mb d I M A cap xs w h hne hM hI hf)
 clear h hne hM hI hf
 generalize anyD d M xs = R at hX ⊢
 go_enter Tryz.func55, Tryz.ntmps55
 go_wp2_with (go_at_call 88; refine hX.out.mono ?_; rintro e w' ⟨r, rfl, hr, hN, hG⟩; replace hr := hide hr)
 go_ret
 exact ⟨ret_b hr.out, hN, hG⟩
end Go.Proofs.YtmfpbahifhndjaaGreat
/-! Layer 10: the search in depth. -/
set_option linter.all false
namespace Go.Proofs.YtmfpbahifhndjaaGreat
open Go.RowKit
attribute [local go_sem ↓] app_eq
theorem enters_dn : ∀ args w, (callFunc 70 args).run Tryz.prog w = .ok (.enter 70 args) w := enters_of Tryz.func70 (by kernel_rfl) rfl
/-- What the search finds in memory. -/
structure CyS (w : World) (lb db fb mb : Nat) (A : Option Addr) (c : Nat) (l : List Stp) : Prop where
 done : w.cell? ⟨db, 0, none⟩ = some (.map (some mb))
 list : w.cell? ⟨lb, 0, none⟩ = some (.slice A l.length c)
 self : w.cell? ⟨fb, 0, none⟩ = some (.func (.func 70) #[] #[.pointer (some ⟨db, 0, none⟩), .pointer (some ⟨lb, 0, none⟩), .pointer (some ⟨fb, 0, none⟩)])
 stp : Sl 4 rStp w mb A l
 lt : lb < mb ∧ mb < db ∧ db < w.heap.size ∧ mb < fb ∧ fb < w.heap.size
theorem CyS.gr {w W : World} {lb db fb mb : Nat} {A : Option Addr} {c : Nat} {l : List Stp} (h : CyS w lb db fb mb A c l) (hg : Gr mb w W) : CyS W lb db fb mb A c l := by
 obtain ⟨h1, h2, h3, h4, h5⟩ := h.lt
 refine ⟨(hg.cell h3 (by omega)).trans h.done, (hg.cell (by omega) (by omega)).trans h.list, (hg.cell h5 (by omega)).trans h.self, h.stp.below sta_stp (hg.below (Nat.le_refl _) (by omega)), h1, h2, Nat.lt_of_lt_of_le h3 hg.size, h4, Nat.lt_of_lt_of_le h5 hg.size⟩
theorem gr_put {w : World} {mb : Nat} (M : NN) : Gr mb w (putN w mb M) := ⟨rfl, rfl, rfl, by rw [size_putN]; exact Nat.le_refl _, fun k _ hn => putN_far (by simpa using hn)⟩
theorem Sl.stp {w : World} {B : Nat} {A : Option Addr} {xs : List Stp} (h : Sl 4 rStp w B A xs) {i : Nat} (hi : i < xs.length) : ∃ b o A1 A2 A3 c1 c2 c3, A = some ⟨b, o, none⟩ ∧ b < B ∧ w.cell? ⟨b, o + i * 4, none⟩ = some (.slice A1 xs[i].takes.length c1) ∧ w.cell? ⟨b, o + i * 4 + 1, none⟩ = some (.slice A2 xs[i].keys.length c2) ∧ w.cell? ⟨b, o + i * 4 + 2, none⟩ = some (.slice A3 xs[i].brs.length c3) ∧ w.cell? ⟨b, o + i * 4 + 3, none⟩ = some (.int .i64 xs[i].to) ∧
  Sl 1 rInt w B A1 xs[i].takes ∧ Sl 1 rCd w B A2 xs[i].keys ∧ Sl 2 rBr w B A3 xs[i].brs ∧ xs[i].keys.length ≤ sm := by
 obtain ⟨b, o, ecs, hA, hb, hl, hc, A1, A2, A3, c1, c2, c3, rfl, h1, h2, h3, h4⟩ := h.2 i xs[i] (List.getElem?_eq_getElem hi)
 exact ⟨b, o, A1, A2, A3, c1, c2, c3, hA, hb, hc 0 _ rfl, hc 1 _ rfl, hc 2 _ rfl, hc 3 _ rfl, h1, h2, h3, h4⟩
theorem Sl.br {w : World} {B : Nat} {A : Option Addr} {xs : List Br} (h : Sl 2 rBr w B A xs) {i : Nat} (hi : i < xs.length) : ∃ b o A1 c1, A = some ⟨b, o, none⟩ ∧ b < B ∧ w.cell? ⟨b, o + i * 2, none⟩ = some (.slice A1 xs[i].pats.length c1) ∧ w.cell? ⟨b, o + i * 2 + 1, none⟩ = some (.int .i64 xs[i].to) ∧ Sl 4 rPt w B A1 xs[i].pats := by
 obtain ⟨b, o, ecs, hA, hb, hl, hc, A1, c1, rfl, h1⟩ := h.2 i xs[i] (List.getElem?_eq_getElem hi)
 exact ⟨b, o, A1, c1, hA, hb, hc 0 _ rfl, hc 1 _ rfl, h1⟩
theorem graph_at {l : List Stp} {k : Nat} (h : k < l.length) : graph l (k : Int) = tosOf l[k] := by unfold graph; rw [nth_at k h]; rfl
set_option maxRecDepth 100000 in
set_option maxHeartbeats 8000000 in
theorem down_any (l : List Stp) (A : Option Addr) (c lb db fb mb : Nat) (hg : ∀ i, ∀ t ∈ graph l i, t < l.length) (hbr : ∀ s ∈ l, s.brs.length ≤ 1000) : ∀ (f F : Nat) (M : NN) (i : Int) (w : World), MkO l.length F M → F < f → i < l.length → CyS w lb db fb mb A c l → NmS w mb M →
  Calls Tryz.prog 70 #[.int .i64 i, .pointer (some ⟨db, 0, none⟩), .pointer (some ⟨lb, 0, none⟩), .pointer (some ⟨fb, 0, none⟩)] w fun e w' => e = .returned (.bool (dnD (graph l) f M i).1) ∧ NmS w' mb (dnD (graph l) f M i).2 ∧ Gr mb w w' := by
 intro f
 induction f with
 | zero => intro F M i w _ hF; omega
 | succ f ih =>
  intro F M i w hM hF hi hC hN
  have hd : dnD (graph l) (f + 1) M i = if i < 0 then (false, M) else if 0 < lkI M i then (lkI M i == 1, M) else
   ((anyD (dnD (graph l) f) (ptI M i 1) (graph l i)).1, ptI (anyD (dnD (graph l) f) (ptI M i 1) (graph l i)).2 i 2) := rfl
  rw [hd]
  clear hd
  have cd := hC.done
  have cl := hC.list
  have cf := hC.self
  obtain ⟨q1, q2, q3, q4, q5⟩ := hC.lt
  have ql : lb < w.heap.size := by omega
  have hls := hC.stp.len
  have hlk := run_lookupN hN i
  by_cases i0 : i < 0
  ·simp only [if_pos i0]
   have d1 : decide (i < 0) = true := decide_eq_true i0
   have d2 : decide (0 ≤ i) = false := decide_eq_false (by omega)
   go_enter Tryz.func70, Tryz.ntmps70
   go_wp2
   all_goals first | (exfalso; omega) | (go_ret; exact ⟨rfl, hN, Gr.refl _ _⟩)
  ·simp only [if_neg i0]
   by_cases i1 : 0 < lkI M i
   ·simp only [if_pos i1]
    generalize lkI M i = x at *
    go_enter Tryz.func70, Tryz.ntmps70
    go_wp2
    all_goals first | (exfalso; omega) | (go_ret; exact ⟨rfl, hN, Gr.refl _ _⟩)
   ·simp only [if_neg i1]
    have hz : lkI M i = 0 := by have := hM.1 i; omega
    obtain ⟨k, rfl⟩ := Int.eq_ofNat_of_zero_le (show 0 ≤ i by omega)
    have hk : k < l.length := by omega
    rw [graph_at hk]
    have hwp := white_put (n := l.length) (M := M) (i := (k : Int)) (by omega) hi hz
    have hF1 : 1 ≤ F := by have := hM.2; omega
    have hM1 : MkO l.length (F - 1) (ptI M (k : Int) 1) := ⟨(mkO_put hM (by omega)).1, by have := hM.2; omega⟩
    have hup := run_updateN hN (k : Int) 1
    obtain ⟨w1, hw1⟩ : ∃ w1, putN w mb (ptI M (k : Int) 1) = w1 := ⟨_, rfl⟩
    rw [hw1] at hup
    have hG1 : Gr mb w w1 := by rw [← hw1]; exact gr_put _
    have hN1 : NmS w1 mb (ptI M (k : Int) 1) := by rw [← hw1]; exact nmS_put hN
    have hC1 := hC.gr hG1
    rw [hz] at hlk
    obtain ⟨b, o, A1, A2, A3, c1, c2, c3, rfl, hb, -, n1, n2, n3, -, hKs, hBr, -⟩ := hC1.stp.stp hk
    have hks0 := hKs.len
    have hkz : (k : Int) < (l.length : Int) := by omega
    have hsm := hbr l[k] (List.getElem_mem hk)
    have hbl : mb < w1.heap.size := hN1.lt
    have hgk : ∀ t ∈ tosOf l[k], t < l.length := fun t ht => hg (k : Int) t (by rw [graph_at hk]; exact ht)
    have e1 := hC1.done
    have e2 := hC1.list
    have e3 := hC1.self
    obtain ⟨s1, s2, s3, s4, s5⟩ := hC1.lt
    have hC1' := hide hC1
    have hG1' := hide hG1
    have hN1' := hide hN1
    replace hN := hide hN
    have hT : tosOf l[k] = (if l[k].keys.length = 0 then [l[k].to] else []) ++ l[k].brs.map Br.to := rfl
    clear hC hC1 hG1 hN1
    generalize hts : tosOf l[k] = ts at *
    generalize l[k] = sk at *
    obtain ⟨tk, ks, bs, tt⟩ := sk
    simp only at n1 n2 n3 hBr hsm hT hks0
    clear hts
    have hts := hide hT.symm
    have hgk' := hide hgk
    clear hgk hT
    have hbl2 := hBr.len
    obtain ⟨w2, hw2, hs2, hb2, hc2, -⟩ := box1 w1 #[.int .i64 tt] 3
    have hI2 : InS w2 w1.heap.size (.slice (some ⟨w1.heap.size, 0, none⟩) 1 1) [tt] := ⟨rfl, .inr ⟨w1.heap.size, 1, #[.int .i64 tt], rfl, Nat.le_refl _, by rw [← hw2]; exact heap_alloc_new w1 _, Nat.le_refl _, by decide, rfl, rfl⟩⟩
    have kb2 := bcell' hb2
    have n1' := (kb2.1 _ (o + k * 4 + 1) (by omega)).trans n1
    have n2' := (kb2.1 _ (o + k * 4 + 2) (by omega)).trans n2
    have n3' := (kb2.1 _ (o + k * 4 + 3) (by omega)).trans n3
    have e2' := (kb2.1 lb 0 (by omega)).trans e2
    have hlb2 : lb < w2.heap.size := by omega
    have hbb2 : b < w2.heap.size := by omega
    replace hI2 := hide hI2
    replace hs2 := hide hs2
    replace hb2 := hide hb2
    clear kb2 hc2
    go_enter Tryz.func70, Tryz.ntmps70
    go_upto_region 4 with fail
    all_goals first | (exfalso; omega) | skip
    go_upto_if 40 with fail
    go_cut [6] (fun v wx => ∃ B cp, v = .slice B (if ks.length = 0 then [tt] else []).length cp ∧ InS wx w1.heap.size (.slice B (if ks.length = 0 then [tt] else []).length cp) (if ks.length = 0 then [tt] else []) ∧ wx = w2)
    case first =>
     by_cases h0 : ks.length = 0
     ·have h0z : ¬ (0 : Int) < (ks.length : Int) := by omega
      replace h0 := hide h0
      go_wp2
      go_meet
      simp only [if_pos h0.out]
      exact ⟨some ⟨w1.heap.size, 0, none⟩, 1, rfl, hI2.out, trivial⟩
     ·have h0z : (0 : Int) < (ks.length : Int) := by omega
      replace h0 := hide h0
      go_wp2
      go_meet
      simp only [if_neg h0.out]
      exact ⟨none, 0, rfl, InS.nil_ _ _, trivial⟩
    case rest =>
     obtain ⟨B, cp, rfl, hI, rfl⟩ := hcut
     have hT1 : (if ks.length = 0 then [tt] else []).length ≤ 1 := by split <;> simp
     generalize (if ks.length = 0 then [tt] else []) = T0 at hI hts hT1 ⊢
     have hbsz : (bs.length : Int) ≤ 9223372036854775807 := by omega
     have hI0 := hide hI
     clear hI
     go_wp2
     go_loopw [6, 8, 47] (fun v _ i wr => ∃ (j : Nat) (B : Option Addr) (cp n : Nat), j ≤ bs.length ∧ i = .int .i64 j ∧ v = .slice B n cp ∧ Hid (n = (T0 ++ (bs.take j).map Br.to).length) ∧ Hid (InS wr w1.heap.size (.slice B n cp) (T0 ++ (bs.take j).map Br.to)) ∧ Hid (Below w1.heap.size w1 wr)) (fun _ _ i _ => bs.length - (intOf i).toNat)
     case atStart => exact ⟨0, B, cp, T0.length, Nat.zero_le _, rfl, rfl, hide (by simp), hide (by simpa using hI0.out), hb2⟩
     case round =>
      obtain ⟨j, B, cp, n, hj, rfl, rfl, hn, hI, hbw⟩ := hrel
      have hzr := hbw.out.size
      by_cases hlt : j < bs.length
      ·have hjz : (j : Int) < (bs.length : Int) := by omega
       obtain ⟨b', o', A', c', rfl, hb', m0, m1, -⟩ := hBr.br hlt
       have m0r := (hbw.out.cell (p := ⟨b', o' + j * 2, none⟩) (by show b' < _; omega)).trans m0
       have m1r := (hbw.out.cell (p := ⟨b', o' + j * 2 + 1, none⟩) (by show b' < _; omega)).trans m1
       have hst := hide (show T0 ++ (bs.take (j + 1)).map Br.to = (T0 ++ (bs.take j).map Br.to) ++ [bs[j].to] from by rw [List.take_succ_eq_append_getElem hlt, List.map_append, List.append_assoc]; rfl)
       have hnl : n ≤ 1001 := by have := hn.out; simp at this; omega
       generalize bs[j] = x at *
       obtain ⟨pats, bt⟩ := x
       simp only at m0r m1r hst
       obtain ⟨wn, hwn, hsn, hbn, hcn, -⟩ := box1 wr #[.slice A' pats.length c', .int .i64 bt] 52
       have p0 : wn.cell? ⟨wr.heap.size, 0, none⟩ = some (.slice A' pats.length c') := hcn 0
       have p1 : wn.cell? ⟨wr.heap.size, 1, none⟩ = some (.int .i64 bt) := hcn 1
       obtain ⟨v', w', hr, hI', hB'⟩ := append_i bt (hI.out.below hbn (Nat.le_refl _)) (Nat.le_trans hzr hbn.size) (by rw [← hn.out]; unfold bigI; omega)
       obtain ⟨Au, cu, rfl⟩ := hI'.form
       have hN := hide (hbw.out.trans ((hbn.mono hzr).trans hB'))
       have hwrn : wr.heap.size < wn.heap.size := by omega
       rw [← hst.out] at hI' hr
       replace hsn := hide hsn
       have hI2' := hide hI'
       generalize hm : (T0 ++ (bs.take (j + 1)).map Br.to).length = m at hr hI2'
       replace hm := hide hm.symm
       clear hI' hB' hbn hcn hI
       go_wp2
       go_roundw
       case rel => exact ⟨j + 1, Au, cu, m, by omega, by go_num, rfl, hm, hI2', hN⟩
       case measure => simp [intOf]; omega
      ·have hje : j = bs.length := by omega
       subst hje
       rw [List.take_length, hts.out] at hn hI
       obtain ⟨A', cap', e, hSl⟩ := hI.out.sl
       injection e with ea eb ec
       have hne : ∀ b2 o2, B = some ⟨b2, o2, none⟩ → b2 ≠ mb := fun b2 o2 hB => by
        have := (World.ownsRow.lt hI.out b2 (by rw [hB]; rfl)).1
        omega
       subst ea ec
       have hGr := Gr.of (g := mb) (Below.mono (hbw.out) (Nat.le_refl _))
       have hCr := hC1'.out.gr hGr
       have hNr := hN1'.out.below hbw.out hbl
       have hFn : FnD mb 70 #[.pointer (some ⟨db, 0, none⟩), .pointer (some ⟨lb, 0, none⟩), .pointer (some ⟨fb, 0, none⟩)] (dnD (graph l) f) (MkO l.length (F - 1)) ts wr := fun x W M' hx hG hN' hI' =>
        (ih (F - 1) M' x W hI' (by omega) (hgk'.out x hx) (hCr.gr hG) hN').mono fun e w' ⟨a1, a2, a3⟩ => ⟨a1, a2, a3, dnD_ok2 _ _ _ _ _ hI'⟩
       have hX := containsD_any 70 _ enters_dn mb (dnD (graph l) f) (MkO l.length (F - 1)) (ptI M (k : Int) 1) B cp ts wr hSl hne hNr hM1 hFn
       rw [← eb] at hX
       have f3 := hCr.self
       have f1 := hCr.done
       obtain ⟨t1, t2, t3, t4, t5⟩ := hCr.lt
       have hGw := hide (hG1'.out.trans hGr)
       replace hX := hide hX
       clear hFn hSl hne hI hCr hNr e1 e2 e3 eb ih
       go_upto_region 13 with (go_at_call 55; refine hX.out.mono ?_; rintro e w5 ⟨rfl, hN5, hG5⟩)
       have d5 := (hG5.cell (i := 0) t3 (by omega)).trans f1
       have hup2 := run_updateN hN5 (k : Int) 2
       have hNf := hide (nmS_put (M' := ptI (anyD (dnD (graph l) f) (ptI M (k : Int) 1) ts).2 (k : Int) 2) hN5)
       have hGf := hide (hGw.out.trans (hG5.trans (gr_put (ptI (anyD (dnD (graph l) f) (ptI M (k : Int) 1) ts).2 (k : Int) 2))))
       clear hN5 hG5 hX
       go_wp2
       go_ret
       exact ⟨rfl, hNf.out, hGf.out⟩
end Go.Proofs.YtmfpbahifhndjaaGreat
/-! Layer 10: is there a cycle, for the program. -/
set_option linter.all false
namespace Go.Proofs.YtmfpbahifhndjaaGreat
open Go.RowKit
theorem upTo_at {n k : Nat} (h : k < (upTo n).length) : (upTo n)[k] = (k : Int) := by simp [upTo]
theorem upTo_len (n : Nat) : (upTo n).length = n := by simp [upTo]
set_option maxRecDepth 100000 in
set_option maxHeartbeats 8000000 in
theorem cyclic_any (l : List Stp) (A : Option Addr) (c : Nat) (w : World) (h : Sl 4 rStp w w.heap.size A l) (hg : ∀ i, ∀ t ∈ graph l i, t < l.length) (hbr : ∀ s ∈ l, s.brs.length ≤ 1000) :
  Calls Tryz.prog 32 #[.slice A l.length c] w fun e w' => e = .returned (.bool (cycL l)) ∧ Below w.heap.size w w' := by
 have hl := h.len
 obtain ⟨wl, hwl, hsl, hbl, hcl, -⟩ := box1 w #[.slice A l.length c] 24
 obtain ⟨wm, hwm⟩ : ∃ wm, wl.alloc (.map #[] 0) = wm := ⟨_, rfl⟩
 have hsm : wm.heap.size = wl.heap.size + 1 := by rw [← hwm]; simp
 have hbm : Below wl.heap.size wl wm := by rw [← hwm]; exact (Below.refl _ _).alloc (Nat.le_refl _) _
 have hNm : NmS wm wl.heap.size [] := by rw [← hwm]; exact heap_alloc_new wl _
 obtain ⟨wd, hwd, hsd, hbd, hcd, -⟩ := box1 wm #[.map (some (w.heap.size + 1))] 129
 obtain ⟨wf, hwf, hsf, hbf, hcf, -⟩ := box1 wd #[.func (.func 70) #[] #[.pointer (some ⟨w.heap.size + 1 + 1, 0, none⟩), .pointer (some ⟨w.heap.size, 0, none⟩), .pointer (some ⟨w.heap.size + 1 + 1 + 1, 0, none⟩)]] 84
 have e3 : Below wd.heap.size wd wf := hbf
 have e2 : Below wm.heap.size wm wf := hbd.trans (e3.mono (by omega))
 have e1 : Below wl.heap.size wl wf := hbm.trans (e2.mono (by omega))
 have e0 : Below w.heap.size w wf := hbl.trans (e1.mono (by omega))
 have hC : CyS wf w.heap.size (w.heap.size + 1 + 1) (w.heap.size + 1 + 1 + 1) (w.heap.size + 1) A c l := by
  refine ⟨?_, ?_, ?_, (h.below sta_stp e0).more sta_stp (by omega), by omega, by omega, by omega, by omega, by omega⟩
  ·have := (e3.cell (p := ⟨wm.heap.size, 0, none⟩) (by show wm.heap.size < _; omega)).trans (hcd 0)
   rw [hsm, hsl] at this; exact this
  ·exact (e1.cell (p := ⟨w.heap.size, 0, none⟩) (by show w.heap.size < _; omega)).trans (hcl 0)
  ·have := hcf 0
   rw [hsd, hsm, hsl] at this; exact this
 have hN : NmS wf (w.heap.size + 1) [] := by
  have := hNm.below e2 (by omega)
  rw [hsl] at this; exact this
 have hM : MkO l.length l.length [] := ⟨fun j => by simp [lkI], white_le _ _⟩
 have hDn := down_any l A c w.heap.size (w.heap.size + 1 + 1) (w.heap.size + 1 + 1 + 1) (w.heap.size + 1) hg hbr (l.length + 1) l.length
 have cl0 := hC.list
 have cf0 := hC.self
 obtain ⟨q1, q2, q3, q4, q5⟩ := hC.lt
 have ql : w.heap.size < wf.heap.size := by omega
 have hv := hide (show cycL l = (anyD (dnD (graph l) (l.length + 1)) [] (upTo l.length)).1 from rfl)
 replace hC := hide hC
 replace hN := hide hN
 replace hM := hide hM
 replace e0 := hide e0
 replace hsf := hide hsf
 clear hcl hcd hcf hbl hbm hbd hbf e1 e2 e3 hNm
 have eg := enters_dn
 have hmm := @run_makeMap Tryz.prog
 go_enter Tryz.func32, Tryz.ntmps32
 go_upto_region 4 with fail
 go_wp2
 go_loopw [5, 10] (fun _ i wr => ∃ (k : Nat) (Mk : NN), k ≤ l.length ∧ i = .int .i64 k ∧ Hid (anyD (dnD (graph l) (l.length + 1)) [] ((upTo l.length).take k) = (false, Mk)) ∧ Hid (NmS wr (w.heap.size + 1) Mk) ∧ Hid (MkO l.length l.length Mk) ∧ Hid (Gr (w.heap.size + 1) wf wr)) (fun _ i _ => l.length - (intOf i).toNat)
 case atStart => exact ⟨0, [], Nat.zero_le _, rfl, hide rfl, hN, hM, hide (Gr.refl _ _)⟩
 case round =>
  obtain ⟨k, Mk, hk, rfl, hc, hNk, hMk, hG⟩ := hrel
  have hCr := hC.out.gr hG.out
  have cf1 := hCr.self
  have hgo := hide (fun W (hW : Gr (w.heap.size + 1) wr W) => e0.out.trans ((hG.out.trans hW).below (B := w.heap.size) (by omega) (by omega)))
  by_cases hlt : k < l.length
  ·have hkz : (k : Int) < (l.length : Int) := by omega
   have hku : k < (upTo l.length).length := by rw [upTo_len]; exact hlt
   have hcall := hDn Mk (k : Int) wr hMk.out (by omega) hkz hCr hNk.out
   have hst := anyD_step hku hc.out
   rw [upTo_at hku] at hst
   have hMn := hide (dnD_ok2 (graph l) (l.length + 1) l.length Mk (k : Int) hMk.out)
   generalize dnD (graph l) (l.length + 1) Mk (k : Int) = r at hcall hst hMn
   obtain ⟨r, M'⟩ := r
   simp only at hcall hMn
   replace hst := hide hst
   clear hCr
   cases r with
   | true =>
    have hv2 := hide (anyD_true hst.out)
    replace hcall := hide hcall
    go_wp2_with (go_at_call 70; refine hcall.out.mono ?_; rintro e w' ⟨rfl, hN', hG'⟩)
    go_ret
    exact ⟨ret_b (by rw [hv.out, hv2.out]), hgo.out _ hG'⟩
   | false =>
    replace hcall := hide hcall
    go_wp2_with (go_at_call 70; refine hcall.out.mono ?_; rintro e w' ⟨rfl, hN', hG'⟩)
    go_roundw
    case rel => exact ⟨k + 1, M', by omega, by go_num, hst, hide hN', hMn, hide (hG.out.trans hG')⟩
    case measure => simp [intOf]; omega
  ·have hke : k = (upTo l.length).length := by rw [upTo_len]; omega
   rw [hke, List.take_length] at hc
   clear hCr
   go_wp2
   go_ret
   exact ⟨ret_b (by rw [hv.out, hc.out]), hgo.out _ (Gr.refl _ _)⟩
end Go.Proofs.YtmfpbahifhndjaaGreat

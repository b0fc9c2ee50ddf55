import Derived.Test.YtbjokgnnklcbcaaGreatDoorTpr18
import Derived.Test.YtbjokgnnklcbcaaGreatDoorTpr19
set_option linter.all false
/-! The document's layer 13: a reader; now, fail, take. -/
namespace Go.Proofs.YtbjokgnnklcbcaaGreatDoor
open Go.RowKit
def wrN (r : Rf) : Int := (r.bad.getD (0, 0)).1
def atN (r : Rf) : Int := (((r.bad.getD (0, 0)).2 : Nat) : Int)
/-- The document's reader: where it is, the network so far, a fault. -/
def RfB (w : World) (g : Nat) (r : Rf) (v1 v2 v3 : Value) : Prop :=
 hasEnd r.l ∧ ∃ A cap T k, r.l = T.drop k ∧ Sl 6 rTk w g A T ∧ w.heap[g]? = some (.cells #[.slice A T.length cap, .int .i64 ((k : Nat) : Int), v1, v2, v3, .bool r.bad.isSome, .int .i64 (wrN r), .int .i64 (atN r)] 58 (0, 0))
theorem RfB.lt {w : World} {g : Nat} {r : Rf} {v1 v2 v3 : Value} (h : RfB w g r v1 v2 v3) : g < w.heap.size := by
 obtain ⟨-, A, cap, T, k, -, -, h⟩ := h
 exact (Array.getElem?_eq_some_iff.1 h).1
theorem RfB.below {w w' : World} {B g : Nat} {r : Rf} {v1 v2 v3 : Value} (h : RfB w g r v1 v2 v3) (hb : Below B w w') (hB : g < B) : RfB w' g r v1 v2 v3 := by
 obtain ⟨h0, A, cap, T, k, h1, h2, h3⟩ := h
 exact ⟨h0, A, cap, T, k, h1, h2.keep sta_tk fun q hq => hb.cell (Nat.lt_trans hq hB), (hb.block g hB).trans h3⟩
structure RfO (w : World) (g : Nat) (r : Rf) (v1 v2 v3 : Value) (b o cap m k : Nat) : Prop where
 lt : g < w.heap.size
 bg : b < g
 klt : k < m
 ml : m ≤ 9223372036854775807
 c0 : w.cell? ⟨g, 0, none⟩ = some (.slice (some ⟨b, o, none⟩) m cap)
 c1 : w.cell? ⟨g, 1, none⟩ = some (.int .i64 (k : Int))
 c2 : w.cell? ⟨g, 2, none⟩ = some v1
 c3 : w.cell? ⟨g, 3, none⟩ = some v2
 c4 : w.cell? ⟨g, 4, none⟩ = some v3
 c5 : w.cell? ⟨g, 5, none⟩ = some (.bool r.bad.isSome)
 c6 : w.cell? ⟨g, 6, none⟩ = some (.int .i64 (wrN r))
 c7 : w.cell? ⟨g, 7, none⟩ = some (.int .i64 (atN r))
 fr : ∀ i, w.frozen? ⟨g, i, none⟩ = false
 k0 : w.cell? ⟨b, o + k * 6, none⟩ = some (.int .u8 ((headT r.l).kind : Int))
 k1 : w.cell? ⟨b, o + k * 6 + 1, none⟩ = some (.string ⟨(headT r.l).s.toArray⟩)
 k2 : w.cell? ⟨b, o + k * 6 + 2, none⟩ = some (.int .i64 ((headT r.l).w : Int))
 k3 : w.cell? ⟨b, o + k * 6 + 3, none⟩ = some (.int .u64 (((headT r.l).n / 18446744073709551616 : Nat) : Int))
 k4 : w.cell? ⟨b, o + k * 6 + 4, none⟩ = some (.int .u64 (((headT r.l).n % 18446744073709551616 : Nat) : Int))
 k5 : w.cell? ⟨b, o + k * 6 + 5, none⟩ = some (.int .i64 ((headT r.l).pl : Int))
theorem RfB.open_ {w : World} {g : Nat} {r : Rf} {v1 v2 v3 : Value} (h : RfB w g r v1 v2 v3) : ∃ b o cap m k, RfO w g r v1 v2 v3 b o cap m k := by
 have hlt := h.lt
 obtain ⟨h0, A, cap, T, k, h1, h2, h3⟩ := h
 have hk : k < T.length := by
  rcases Nat.lt_or_ge k T.length with h4 | h4
  ·exact h4
  ·exact absurd (by rw [h1]; exact List.drop_eq_nil_of_le h4) h0.ne
 obtain ⟨b, o, rfl, hb, a0, a1, a2, a3, a4, a5⟩ := h2.tok hk
 have hh : T[k] = headT r.l := by rw [h1, List.drop_eq_getElem_cons hk]; rfl
 rw [hh] at a0 a1 a2 a3 a4 a5
 refine ⟨b, o, cap, T.length, k, hlt, hb, hk, h2.len, ?_, ?_, ?_, ?_, ?_, ?_, ?_, ?_, ?_, a0, a1, a2, a3, a4, a5⟩
 all_goals simp [World.cell?, World.frozen?, h3]
set_option maxRecDepth 100000 in
set_option maxHeartbeats 4000000 in
theorem now13r {w : World} {g : Nat} {r : Rf} {v1 v2 v3 : Value} (h : RfB w g r v1 v2 v3) : Calls Tryz.prog 21 #[.pointer (some ⟨g, 0, none⟩)] w fun e w' => e = .returned (tkA (nowF r)) ∧ Below w.heap.size w w' := by
 obtain ⟨b, o, cap, m, k, hO⟩ := h.open_
 obtain ⟨lt, bg, klt, ml, c0, c1, c2, c3, c4, c5, c6, c7, fr, k0, k1, k2, k3, k4, k5⟩ := hO
 obtain ⟨wa, hwa, hba, hsa, hla, z0, z1, z2, z3, z4, z5⟩ := tbox13 w 0 0 0 0 0 ⟨#[]⟩
 have hfa : ∀ i, wa.frozen? ⟨w.heap.size, i, none⟩ = false := by intro i; rw [← hwa]; exact World.frozen?_alloc_at _ _ _ _ rfl
 have kk := bcell' hba.out
 have hbl : b < w.heap.size := by omega
 replace c0 := (kk.1 g 0 lt).trans c0
 replace c1 := (kk.1 g 1 lt).trans c1
 replace c5 := (kk.1 g 5 lt).trans c5
 replace k0 := (kk.1 b (o + k * 6) hbl).trans k0
 replace k1 := (kk.1 b (o + k * 6 + 1) hbl).trans k1
 replace k2 := (kk.1 b (o + k * 6 + 2) hbl).trans k2
 replace k3 := (kk.1 b (o + k * 6 + 3) hbl).trans k3
 replace k4 := (kk.1 b (o + k * 6 + 4) hbl).trans k4
 replace k5 := (kk.1 b (o + k * 6 + 5) hbl).trans k5
 have g0 := hfa 0
 have g1 := hfa 1
 have g2 := hfa 2
 have g3 := hfa 3
 have g4 := hfa 4
 have g5 := hfa 5
 have hkz : (k : Int) < (m : Int) := by omega
 have hgl : g < wa.heap.size := by omega
 have hbl2 : b < wa.heap.size := by omega
 have hgn : g ≠ w.heap.size := by omega
 have hbn : b ≠ w.heap.size := by omega
 have hfin := hide (fun (a0 a1 a2 a3 a4 a5 : Value) => show Below w.heap.size w ((((((wa.setCell ⟨w.heap.size, 0, none⟩ a0).setCell ⟨w.heap.size, 1, none⟩ a1).setCell ⟨w.heap.size, 2, none⟩ a2).setCell ⟨w.heap.size, 3, none⟩ a3).setCell ⟨w.heap.size, 4, none⟩ a4).setCell ⟨w.heap.size, 5, none⟩ a5) from (((((hba.out.setCell (Nat.le_refl _) _).setCell (Nat.le_refl _) _).setCell (Nat.le_refl _) _).setCell (Nat.le_refl _) _).setCell (Nat.le_refl _) _).setCell (Nat.le_refl _) _)
 have hv := hide (show nowF r = if r.bad.isSome then tk9 else headT r.l from rfl)
 clear h kk c2 c3 c4 c6 c7 fr hfa hba
 generalize nowF r = R at hv ⊢
 go_enter Tryz.func21, Tryz.ntmps21
 cases hb : r.bad.isSome with
 | true =>
  rw [hb] at c5 hv
  have hv' : R = tk9 := hv.out
  subst hv'
  clear hv
  go_wp2
  refine bodyPost_ret (v := .agg #[.int .u8 9, .string ⟨#[]⟩, .int .i64 0, .int .u64 0, .int .u64 0, .int .i64 0]) (by simp [results, Tryz.results21, go_sem, z0, z1, z2, z3, z4, z5]) rfl ⟨rfl, hfin.out _ _ _ _ _ _⟩
 | false =>
  rw [hb] at c5 hv
  have hv' : R = headT r.l := hv.out
  subst hv'
  clear hv
  generalize headT r.l = t at k0 k1 k2 k3 k4 k5 ⊢
  obtain ⟨kd, s, wd, n, pl⟩ := t
  simp only at k0 k1 k2 k3 k4 k5
  unfold tkA
  simp only
  generalize (⟨s.toArray⟩ : ByteArray) = S at k1 ⊢
  generalize ((n / 18446744073709551616 : Nat) : Int) = hi at k3 ⊢
  generalize ((n % 18446744073709551616 : Nat) : Int) = lo at k4 ⊢
  go_wp2_with fail
  go_region
  go_wp2
  refine bodyPost_ret (v := .agg #[.int .u8 (kd : Int), .string S, .int .i64 (wd : Int), .int .u64 hi, .int .u64 lo, .int .i64 (pl : Int)]) ?_ rfl ⟨rfl, ?_⟩
  ·simp [results, Tryz.results21, go_sem, z0, z1, z2, z3, z4, z5]
  ·exact (hfin.out _ _ _ _ _ _).drew
end Go.Proofs.YtbjokgnnklcbcaaGreatDoor
/-! The document's layer 13: fail, take, has, want. -/
namespace Go.Proofs.YtbjokgnnklcbcaaGreatDoor
open Go.RowKit
theorem Sl.setB {w : World} {g i : Nat} {A : Option Addr} {T : List Tk} (h : Sl 6 rTk w g A T) (v : Value) : Sl 6 rTk (w.setCell ⟨g, i, none⟩ v) g A T :=
 h.keep sta_tk fun q hq => World.cell?_of_block (Below.heap_setCell w ⟨g, i, none⟩ v q.block (by show q.block ≠ g; omega))
/-- A fault is laid. -/
theorem RfB.fault {w : World} {g : Nat} {l : List Tk} {n : Net} {v1 v2 v3 : Value} (h : RfB w g ⟨l, n, none⟩ v1 v2 v3) (e : Int) (pl : Nat) :
  RfB (((w.setCell ⟨g, 5, none⟩ (.bool true)).setCell ⟨g, 6, none⟩ (.int .i64 e)).setCell ⟨g, 7, none⟩ (.int .i64 (pl : Int))) g ⟨l, n, some (e, pl)⟩ v1 v2 v3 := by
 obtain ⟨h0, A, cap, T, k, h1, h2, h3⟩ := h
 refine ⟨h0, A, cap, T, k, h1, ?_, ?_⟩
 ·exact ((h2.setB _).setB _).setB _
 ·simp [World.setCell, Array.getElem?_modify, h3, wrN, atN]
theorem RfB.adv {w : World} {g k : Nat} {l : List Tk} {n : Net} {v1 v2 v3 : Value} (h : RfB w g ⟨l, n, none⟩ v1 v2 v3) (hc : w.cell? ⟨g, 1, none⟩ = some (.int .i64 (k : Int))) (hk : (headT l).kind ≠ 0) :
  RfB (w.setCell ⟨g, 1, none⟩ (.int .i64 ((k : Int) + 1))) g ⟨l.tail, n, none⟩ v1 v2 v3 := by
 obtain ⟨h0, A, cap, T, k', h1, h2, h3⟩ := h
 have hkk : k' = k := by
  have := hc
  simp [World.cell?, h3] at this
  omega
 subst hkk
 have hl : advT l = l.tail := by unfold advT; rw [if_neg hk]
 refine ⟨by show hasEnd l.tail; rw [← hl]; exact h0.adv, A, cap, T, k' + 1, ?_, ?_, ?_⟩
 ·show l.tail = T.drop (k' + 1)
  have h1' : l = T.drop k' := h1
  rw [h1', List.tail_drop]
 ·exact h2.setB _
 ·simp [World.setCell, Array.getElem?_modify, h3, wrN, atN]
set_option maxRecDepth 100000 in
set_option maxHeartbeats 4000000 in
theorem fail13r (so : Bool) (t : Tk) (e : Int) {w : World} {g : Nat} {r : Rf} {v1 v2 v3 : Value} (h : RfB w g r v1 v2 v3) :
  Calls Tryz.prog 20 #[.pointer (some ⟨g, 0, none⟩), .bool so, tkA t, .int .i64 e] w fun en w' => en = .returned (.tuple #[]) ∧ Grg g w w' ∧ RfB w' g (failF so t e r) v1 v2 v3 := by
 obtain ⟨b, o, cap, m, k, hO⟩ := h.open_
 obtain ⟨lt, bg, klt, ml, c0, c1, c2, c3, c4, c5, c6, c7, fr, k0, k1, k2, k3, k4, k5⟩ := hO
 obtain ⟨kd, s, wd, n, pl⟩ := t
 obtain ⟨wa, hwa, hba, hsa, hla, z0, z1, z2, z3, z4, z5⟩ := tbox13 w kd wd ((n : Int) / 18446744073709551616) ((n : Int) % 18446744073709551616) pl ⟨s.toArray⟩
 have kk := bcell' hba.out
 replace c5 := (kk.1 g 5 lt).trans c5
 replace c6 := (kk.1 g 6 lt).trans c6
 replace c7 := (kk.1 g 7 lt).trans c7
 have f5 := (kk.2 g 5 lt).trans (fr 5)
 have f6 := (kk.2 g 6 lt).trans (fr 6)
 have f7 := (kk.2 g 7 lt).trans (fr 7)
 have hRa := hide (h.below hba.out lt)
 have hGa := hide (Grg.of (g := g) hba.out)
 have hgl : g < wa.heap.size := by omega
 have hgn : w.heap.size ≠ g := by omega
 have hgn2 : g ≠ w.heap.size := by omega
 clear kk c0 c1 c2 c3 c4 k0 k1 k2 k3 k4 k5 fr hba h
 cases so with
 | true =>
  have hv : failF true ⟨kd, s, wd, n, pl⟩ e r = r := fail_yes _ _ _
  rw [hv]
  go_enter Tryz.func20, Tryz.ntmps20
  go_wp2
  go_end0
  exact ⟨rfl, hGa.out, hRa.out⟩
 | false =>
  obtain ⟨l, nn, bad⟩ := r
  cases bad with
  | some x =>
   have hv : failF false ⟨kd, s, wd, n, pl⟩ e ⟨l, nn, some x⟩ = ⟨l, nn, some x⟩ := fail_some _ _ _ _ _ _
   rw [hv]
   simp only [Option.isSome_some] at c5
   go_enter Tryz.func20, Tryz.ntmps20
   go_wp2
   go_end0
   exact ⟨rfl, hGa.out, hRa.out⟩
  | none =>
   have hv : failF false ⟨kd, s, wd, n, pl⟩ e ⟨l, nn, none⟩ = ⟨l, nn, some (e, pl)⟩ := fail_no _ _ _ _
   rw [hv]
   simp only [Option.isSome_none] at c5
   have hfin := hide (hRa.out.fault e pl)
   have hgf := hide (((hGa.out.trans (Grg.set g wa 5 (.bool true))).trans (Grg.set g _ 6 (.int .i64 e))).trans (Grg.set g _ 7 (.int .i64 (pl : Int))))
   go_enter Tryz.func20, Tryz.ntmps20
   go_wp2
   go_end0
   exact ⟨rfl, hgf.out, hfin.out⟩
end Go.Proofs.YtbjokgnnklcbcaaGreatDoor
/-! The document's layer 13: take, has, want. -/
namespace Go.Proofs.YtbjokgnnklcbcaaGreatDoor
open Go.RowKit
theorem RfB.setNew {g r i : Nat} {W : World} {rf : Rf} {v1 v2 v3 : Value} (h : RfB W g rf v1 v2 v3) (hr : g < r) (v : Value) : RfB (W.setCell ⟨r, i, none⟩ v) g rf v1 v2 v3 :=
 h.below (B := g + 1) ((Below.refl _ _).setCell (by show g + 1 ≤ r; omega) _) (Nat.lt_succ_self _)
theorem RfB.drew {g : Nat} {W : World} {rf : Rf} {v1 v2 v3 : Value} (h : RfB W g rf v1 v2 v3) : RfB W.drew g rf v1 v2 v3 := h
/-- A token laid into a box of its own. -/
theorem set6r {g r : Nat} {w W : World} {rf : Rf} {v1 v2 v3 : Value} (hG : Grg g w W) (hR : RfB W g rf v1 v2 v3) (hr : w.heap.size ≤ r) (hg : g < r) (a0 a1 a2 a3 a4 a5 : Value) :
  Grg g w ((((((W.setCell ⟨r, 0, none⟩ a0).setCell ⟨r, 1, none⟩ a1).setCell ⟨r, 2, none⟩ a2).setCell ⟨r, 3, none⟩ a3).setCell ⟨r, 4, none⟩ a4).setCell ⟨r, 5, none⟩ a5) ∧ RfB ((((((W.setCell ⟨r, 0, none⟩ a0).setCell ⟨r, 1, none⟩ a1).setCell ⟨r, 2, none⟩ a2).setCell ⟨r, 3, none⟩ a3).setCell ⟨r, 4, none⟩ a4).setCell ⟨r, 5, none⟩ a5) g rf v1 v2 v3 :=
 ⟨(((((hG.setNew hr _).setNew hr _).setNew hr _).setNew hr _).setNew hr _).setNew hr _, (((((hR.setNew hg _).setNew hg _).setNew hg _).setNew hg _).setNew hg _).setNew hg _⟩
set_option maxRecDepth 100000 in
set_option maxHeartbeats 4000000 in
theorem take13r {w : World} {g : Nat} {r : Rf} {v1 v2 v3 : Value} (h : RfB w g r v1 v2 v3) : Calls Tryz.prog 22 #[.pointer (some ⟨g, 0, none⟩)] w fun e w' => e = .returned (tkA (nowF r)) ∧ Grg g w w' ∧ RfB w' g (takeF r) v1 v2 v3 := by
 have lt := h.lt
 obtain ⟨wa, hwa, hba, hsa, hla, z0, z1, z2, z3, z4, z5⟩ := tbox13 w 0 0 0 0 0 ⟨#[]⟩
 have hfa : ∀ i, wa.frozen? ⟨w.heap.size, i, none⟩ = false := by intro i; rw [← hwa]; exact World.frozen?_alloc_at _ _ _ _ rfl
 have hRa := h.below hba.out lt
 have hN := hide (now13r hRa)
 have hGa := hide (Grg.of (g := g) hba.out)
 have hv := hide (show takeF r = if !r.bad.isSome && (nowF r).kind != 0 then ⟨r.l.tail, r.n, r.bad⟩ else r from rfl)
 have hnow := hide (fun hb : r.bad.isSome = false => show nowF r = headT r.l from by unfold nowF; rw [hb]; rfl)
 generalize takeF r = TR at hv ⊢
 generalize nowF r = t at hv hN hnow ⊢
 have hkk := hide (fun (hb : r.bad.isSome = false) => (congrArg Tk.kind (hnow.out hb)))
 obtain ⟨k, s, wd, m, pl⟩ := t
 unfold tkA at hN ⊢
 simp only at hv hN hkk ⊢
 generalize (⟨s.toArray⟩ : ByteArray) = S at hN ⊢
 generalize ((m / 18446744073709551616 : Nat) : Int) = hi at hN ⊢
 generalize ((m % 18446744073709551616 : Nat) : Int) = lo at hN ⊢
 clear hnow h
 have hwg : w.heap.size ≠ g := by omega
 have hgw : g ≠ w.heap.size := by omega
 go_enter Tryz.func22, Tryz.ntmps22
 go_upto_region 2 with (go_at_call 21; refine hN.out.mono ?_; rintro e w2 ⟨rfl, hb2⟩; obtain ⟨w3, hw3, hb3, hs3, hl3, x0, x1, x2, x3, x4, x5⟩ := tbox13 w2 k wd hi lo pl S)
 have hb23 := hb2.trans (hb3.out.mono hb2.size)
 obtain ⟨u0, u1, u2, u3, u4, u5, uf⟩ := keep6 (Grg.of (g := g) hb23) hla hwg z0 z1 z2 z3 z4 z5 hfa
 have hR3 := hRa.below hb23 hRa.lt
 have hG3 := hide (hGa.out.trans (Grg.of hb23))
 obtain ⟨b, o, cap, mm, kx, hO⟩ := hR3.open_
 obtain ⟨lt3, bg, klt, ml, c0, c1, c2, c3, c4, c5, c6, c7, fr, -, -, -, -, -, -⟩ := hO
 have f1 := fr 1
 have g0 := uf 0
 have g1 := uf 1
 have g2 := uf 2
 have g3 := uf 3
 have g4 := uf 4
 have g5 := uf 5
 have hz := hb2.size
 have hn1 : w2.heap.size ≠ g := by omega
 have hn2 : g ≠ w2.heap.size := by omega
 have hn3 : w2.heap.size ≠ w.heap.size := by omega
 have hn4 : w.heap.size ≠ w2.heap.size := by omega
 have hlw : w.heap.size < w3.heap.size := by omega
 have hkm : (kx : Int) + 1 ≤ 9223372036854775807 := by omega
 clear hb2 hb23 hw3 hb3 hs3 uf z0 z1 z2 z3 z4 z5 hfa hN hRa c0 c2 c3 c4 c6 c7 fr
 obtain ⟨l, nn, bad⟩ := r
 cases bad with
 | some x =>
  have hv' := hide (show TR = ⟨l, nn, some x⟩ from by rw [hv.out]; simp)
  simp only [Option.isSome_some] at c5
  replace hR3 := hide hR3
  clear hv hkk
  go_wp2
  obtain ⟨q1, q2⟩ := set6r (r := w.heap.size) hG3.out hR3.out (Nat.le_refl _) lt (.int .u8 (k : Int)) (.string S) (.int .i64 (wd : Int)) (.int .u64 hi) (.int .u64 lo) (.int .i64 (pl : Int))
  refine bodyPost_ret (v := .agg #[.int .u8 (k : Int), .string S, .int .i64 (wd : Int), .int .u64 hi, .int .u64 lo, .int .i64 (pl : Int)]) (by simp [results, Tryz.results22, go_sem, u0, u1, u2, u3, u4, u5]) rfl ⟨rfl, q1, ?_⟩
  rw [hv'.out]
  exact q2
 | none =>
  simp only [Option.isSome_none] at c5
  by_cases hk : k = 0
  ·have ek : ((k : Int) != 0) = false := by simp [hk]
   have hv' := hide (show TR = ⟨l, nn, none⟩ from by rw [hv.out]; simp [hk])
   replace hR3 := hide hR3
   clear hv hk hkk
   go_wp2
   obtain ⟨q1, q2⟩ := set6r (r := w.heap.size) hG3.out hR3.out (Nat.le_refl _) lt (.int .u8 (k : Int)) (.string S) (.int .i64 (wd : Int)) (.int .u64 hi) (.int .u64 lo) (.int .i64 (pl : Int))
   refine bodyPost_ret (v := .agg #[.int .u8 (k : Int), .string S, .int .i64 (wd : Int), .int .u64 hi, .int .u64 lo, .int .i64 (pl : Int)]) (by simp [results, Tryz.results22, go_sem, u0, u1, u2, u3, u4, u5]) rfl ⟨rfl, q1, ?_⟩
   rw [hv'.out]
   exact q2
  ·have ek : ((k : Int) != 0) = true := by simp; omega
   have hv' := hide (show TR = ⟨l.tail, nn, none⟩ from by rw [hv.out]; simp [hk])
   have hadv := hide (hR3.adv c1 (by rw [← (hkk.out rfl)]; exact hk))
   have hga := hide (hG3.out.trans (Grg.set g w3 1 (.int .i64 ((kx : Int) + 1))))
   have hkw : IntKind.i64.wrap ((kx : Int) + 1) = (kx : Int) + 1 := IntWalk.i64_in _ (by omega)
   clear hv hk hkk hR3
   go_wp2
   obtain ⟨q1, q2⟩ := set6r (r := w.heap.size) hga.out hadv.out (Nat.le_refl _) lt (.int .u8 (k : Int)) (.string S) (.int .i64 (wd : Int)) (.int .u64 hi) (.int .u64 lo) (.int .i64 (pl : Int))
   refine bodyPost_ret (v := .agg #[.int .u8 (k : Int), .string S, .int .i64 (wd : Int), .int .u64 hi, .int .u64 lo, .int .i64 (pl : Int)]) (by simp [results, Tryz.results22, go_sem, u0, u1, u2, u3, u4, u5, hgw, hwg]) rfl ⟨rfl, q1, ?_⟩
   rw [hv'.out]
   exact q2
end Go.Proofs.YtbjokgnnklcbcaaGreatDoor
/-! The document's layer 13: has, want. -/
namespace Go.Proofs.YtbjokgnnklcbcaaGreatDoor
open Go.RowKit
set_option maxRecDepth 100000 in
set_option maxHeartbeats 4000000 in
theorem has13r (x : ByteArray) {w : World} {g : Nat} {r : Rf} {v1 v2 v3 : Value} (h : RfB w g r v1 v2 v3) : Calls Tryz.prog 19 #[.pointer (some ⟨g, 0, none⟩), .string x] w fun e w' => e = .returned (.bool (hasF x.data.toList r)) ∧ Below w.heap.size w w' := by
 have lt := h.lt
 have hN := hide (now13r h)
 have hv := hide (show hasF x.data.toList r = (((nowF r).kind == 1 || (nowF r).kind == 3) && (nowF r).s == x.data.toList) from rfl)
 generalize hasF x.data.toList r = RES at hv ⊢
 generalize nowF r = t at hv hN
 obtain ⟨k, s, wd, m, pl⟩ := t
 unfold tkA at hN
 simp only at hv hN
 obtain ⟨S, hS⟩ : ∃ S : ByteArray, S = ⟨s.toArray⟩ := ⟨_, rfl⟩
 have hsS : s = S.data.toList := by rw [hS]
 rw [← hS] at hN
 rw [hsS] at hv
 clear hS hsS h
 generalize ((m / 18446744073709551616 : Nat) : Int) = hi at hN
 generalize ((m % 18446744073709551616 : Nat) : Int) = lo at hN
 have hr : RES = ((decide (k = 1) || decide (k = 3)) && decide (S = x)) := by
  rw [hv.out]
  congr 1
  rw [Bool.eq_iff_iff, beq_iff_eq, decide_eq_true_eq]
  exact ⟨fun e => Go.WideShapes.bytes_inj (by rw [e]), fun e => by rw [e]⟩
 replace hr := hide hr
 clear hv
 go_enter Tryz.func19, Tryz.ntmps19
 go_upto_region 2 with (go_at_call 21; refine hN.out.mono ?_; rintro e w2 ⟨rfl, hb2⟩; obtain ⟨w3, hw3, hb3, hs3, hl3, x0, x1, x2, x3, x4, x5⟩ := tbox13 w2 k wd hi lo pl S)
 have hfin := hide (hb2.trans (hb3.out.mono hb2.size))
 clear hb2 hw3 hb3 hs3 hN
 by_cases hs : S = x
 ·have hq := str_eq hs
  by_cases h1 : k = 1
  ·have e1 : ((k : Int) == 1) = true := by rw [beq_iff_eq]; omega
   have hf : RES = true := by rw [hr.out]; simp [hs, h1]
   clear hs h1
   subst hf
   go_wp2
   go_ret
   exact ⟨rfl, hfin.out⟩
  ·have e1 : ((k : Int) == 1) = false := by rw [beq_eq_false_iff_ne]; omega
   by_cases h3 : k = 3
   ·have e3 : ((k : Int) == 3) = true := by rw [beq_iff_eq]; omega
    have hf : RES = true := by rw [hr.out]; simp [hs, h3]
    clear hs h3 h1
    subst hf
    go_wp2
    go_ret
    exact ⟨rfl, hfin.out⟩
   ·have e3 : ((k : Int) == 3) = false := by rw [beq_eq_false_iff_ne]; omega
    have hf : RES = false := by rw [hr.out]; simp [h3, h1]
    clear hs h3 h1
    subst hf
    go_wp2
    go_ret
    exact ⟨rfl, hfin.out⟩
 ·have hq := str_ne hs
  have hf : RES = false := by rw [hr.out]; simp [hs]
  clear hs
  subst hf
  by_cases h1 : k = 1
  ·have e1 : ((k : Int) == 1) = true := by rw [beq_iff_eq]; omega
   clear h1
   go_wp2
   go_ret
   exact ⟨rfl, hfin.out⟩
  ·have e1 : ((k : Int) == 1) = false := by rw [beq_eq_false_iff_ne]; omega
   by_cases h3 : k = 3
   ·have e3 : ((k : Int) == 3) = true := by rw [beq_iff_eq]; omega
    clear h3 h1
    go_wp2
    go_ret
    exact ⟨rfl, hfin.out⟩
   ·have e3 : ((k : Int) == 3) = false := by rw [beq_eq_false_iff_ne]; omega
    clear h3 h1
    go_wp2
    go_ret
    exact ⟨rfl, hfin.out⟩
set_option maxRecDepth 100000 in
set_option maxHeartbeats 4000000 in
theorem want13r (x : ByteArray) {w : World} {g : Nat} {r : Rf} {v1 v2 v3 : Value} (h : RfB w g r v1 v2 v3) : Calls Tryz.prog 27 #[.pointer (some ⟨g, 0, none⟩), .string x] w fun e w' => e = .returned (.tuple #[]) ∧ Grg g w w' ∧ RfB w' g (wantF x.data.toList r) v1 v2 v3 := by
 have lt := h.lt
 have hH := hide (has13r x h)
 have hT := hide (fun (W : World) (hW : Below w.heap.size w W) => take13r (h.below hW lt))
 have hF := hide (fun (W : World) (hW : RfB W g (takeF r) v1 v2 v3) => fail13r (hasF x.data.toList r) (nowF r) 4 hW)
 have hv := hide (show wantF x.data.toList r = failF (hasF x.data.toList r) (nowF r) 4 (takeF r) from rfl)
 rw [← hv.out] at hF
 generalize wantF x.data.toList r = RES at hv hF ⊢
 generalize hasF x.data.toList r = hb at hH hF
 generalize nowF r = t at hT hF
 obtain ⟨k, s, wd, m, pl⟩ := t
 unfold tkA at hT hF
 simp only at hT hF
 generalize (⟨s.toArray⟩ : ByteArray) = S at hT hF
 generalize ((m / 18446744073709551616 : Nat) : Int) = hi at hT hF
 generalize ((m % 18446744073709551616 : Nat) : Int) = lo at hT hF
 clear hv h
 go_enter Tryz.func27, Tryz.ntmps27
 go_upto_region 1 with (go_at_call 19; refine hH.out.mono ?_; rintro e w1 ⟨rfl, hb1⟩)
 go_upto_region 2 with (go_at_call 22; refine (hT.out _ hb1).mono ?_; rintro e w2 ⟨rfl, hG2, hR2⟩; obtain ⟨w3, hw3, hb3, hs3, hl3, x0, x1, x2, x3, x4, x5⟩ := tbox13 w2 k wd hi lo pl S)
 have hG3 := hide ((Grg.of (g := g) hb1).trans (hG2.trans (Grg.of hb3.out)))
 have hF3 := hide (hF.out _ (hR2.below hb3.out hR2.lt))
 clear hw3 hb3 hs3 hG2 hR2 hb1 hT hH hF
 go_wp2_with (go_at_call 20; refine hF3.out.mono ?_; rintro e w4 ⟨rfl, hG4, hR4⟩)
 go_end0
 exact ⟨rfl, hG3.out.trans hG4, hR4⟩
end Go.Proofs.YtbjokgnnklcbcaaGreatDoor
/-! The document's layer 13: name. -/
namespace Go.Proofs.YtbjokgnnklcbcaaGreatDoor
open Go.RowKit
set_option maxRecDepth 100000 in
set_option maxHeartbeats 4000000 in
theorem name13r {w : World} {g : Nat} {r : Rf} {v1 v2 v3 : Value} (h : RfB w g r v1 v2 v3) : Calls Tryz.prog 23 #[.pointer (some ⟨g, 0, none⟩)] w fun e w' => e = .returned (tkA (nameF r).1) ∧ Grg g w w' ∧ RfB w' g (nameF r).2 v1 v2 v3 := by
 have lt := h.lt
 obtain ⟨wa, hwa, hba, hsa, hla, z0, z1, z2, z3, z4, z5⟩ := tbox13 w 0 0 0 0 0 ⟨#[]⟩
 have hfa : ∀ i, wa.frozen? ⟨w.heap.size, i, none⟩ = false := by intro i; rw [← hwa]; exact World.frozen?_alloc_at _ _ _ _ rfl
 have hRa := h.below hba.out lt
 have hN := hide (take13r hRa)
 have hGa := hide (Grg.of (g := g) hba.out)
 show Calls _ _ _ w fun e w' => e = .returned (tkA (nowF r)) ∧ Grg g w w' ∧ RfB w' g (failF (nmT (nowF r)) (nowF r) 4 (takeF r)) v1 v2 v3
 have hF := hide (fun (W : World) (hW : RfB W g (takeF r) v1 v2 v3) => fail13r (nmT (nowF r)) (nowF r) 4 hW)
 have hv := hide (show nmT (nowF r) = ((nowF r).kind == 1 && nameB ⟨(nowF r).s.toArray⟩) from rfl)
 generalize failF (nmT (nowF r)) (nowF r) 4 (takeF r) = RES at hF ⊢
 generalize nmT (nowF r) = nb at hF hv
 generalize nowF r = t at hN hF hv ⊢
 obtain ⟨k, s, wd, m, pl⟩ := t
 unfold tkA at hN hF ⊢
 simp only at hN hF hv ⊢
 have hI := hide (fun (W : World) => isName03_any ⟨s.toArray⟩ W)
 generalize (⟨s.toArray⟩ : ByteArray) = S at hN hF hv hI ⊢
 generalize ((m / 18446744073709551616 : Nat) : Int) = hi at hN hF ⊢
 generalize ((m % 18446744073709551616 : Nat) : Int) = lo at hN hF ⊢
 clear h hRa
 have hwg : w.heap.size ≠ g := by omega
 have hgw : g ≠ w.heap.size := by omega
 go_enter Tryz.func23, Tryz.ntmps23
 go_upto_region 2 with (go_at_call 22; refine hN.out.mono ?_; rintro e w2 ⟨rfl, hG2, hR2⟩; obtain ⟨w3, hw3, hb3, hs3, hl3, x0, x1, x2, x3, x4, x5⟩ := tbox13 w2 k wd hi lo pl S)
 have hG3 := hide (hG2.trans (Grg.of (g := g) hb3.out))
 have hR3 := hide (hR2.below hb3.out hR2.lt)
 have hz2 := hG2.size
 have hn1 : w2.heap.size ≠ g := by have := hR2.lt; omega
 have hIq := hide (fun d os => (hI.out (Go.Sort.grow (redrawn w3 d) os)))
 have hgc := gcell w3
 clear hG2 hR2 hw3 hb3 hs3 hN hI
 by_cases hk : k = 1
 ·have ek : ((k : Int) == 1) = true := by rw [beq_iff_eq]; omega
  have hnb : nameB S = nb := by rw [hv.out, show (k == 1) = true from by simp [hk], Bool.true_and]
  rw [hnb] at hIq
  clear hk hv hnb
  go_wp2_with fail
  refine wp_region_quiet_tail 10 (by kernel_rfl) (by kernel_rfl) ?_
  simp only [List.take_succ_cons, List.take_zero, List.drop_succ_cons, List.drop_zero]
  repeat (any_goals (first | go_big_quiet_step ((go_at_call 55; with_reducible exact Calls.regrown_of (hIq.out _ _))) | quiet_step ((go_at_call 55; with_reducible exact Calls.regrown_of (hIq.out _ _)))))
  refine wpQuiet_nil ?_
  intro w4 hw4
  go_upto_region 3 with (go_at_call 20; refine (hF.out _ (hR3.out.below hw4 hR3.out.lt)).mono ?_; rintro e w5 ⟨rfl, hG5, hR5⟩)
  have hGt := (Grg.of (g := g) hw4).trans hG5
  replace x0 := (hGt.cell hl3 hn1).trans x0
  replace x1 := (hGt.cell hl3 hn1).trans x1
  replace x2 := (hGt.cell hl3 hn1).trans x2
  replace x3 := (hGt.cell hl3 hn1).trans x3
  replace x4 := (hGt.cell hl3 hn1).trans x4
  replace x5 := (hGt.cell hl3 hn1).trans x5
  have hGu := hG3.out.trans hGt
  obtain ⟨u0, u1, u2, u3, u4, u5, uf⟩ := keep6 hGu hla hwg z0 z1 z2 z3 z4 z5 hfa
  have g0 := uf 0
  have g1 := uf 1
  have g2 := uf 2
  have g3 := uf 3
  have g4 := uf 4
  have g5 := uf 5
  have hlw : w.heap.size < w5.heap.size := by have := hGu.size; omega
  have hl5 : w2.heap.size < w5.heap.size := by have := hGt.size; omega
  have hGf := hide (hGa.out.trans hGu)
  replace hR5 := hide hR5
  clear hGt hGu hG5 hG3 hR3 hw4 uf hfa z0 z1 z2 z3 z4 z5
  go_wp2
  obtain ⟨q1, q2⟩ := set6r (r := w.heap.size) hGf.out hR5.out (Nat.le_refl _) lt (.int .u8 (k : Int)) (.string S) (.int .i64 (wd : Int)) (.int .u64 hi) (.int .u64 lo) (.int .i64 (pl : Int))
  exact bodyPost_ret (v := .agg #[.int .u8 (k : Int), .string S, .int .i64 (wd : Int), .int .u64 hi, .int .u64 lo, .int .i64 (pl : Int)]) (by simp [results, Tryz.results23, go_sem, u0, u1, u2, u3, u4, u5]) rfl ⟨rfl, q1, q2⟩
 ·have ek : ((k : Int) == 1) = false := by rw [beq_eq_false_iff_ne]; omega
  have hnb : nb = false := by rw [hv.out, show (k == 1) = false from by simp [hk], Bool.false_and]
  subst hnb
  clear hk hv
  go_wp2_with fail
  refine wp_region_quiet_tail 10 (by kernel_rfl) (by kernel_rfl) ?_
  simp only [List.take_succ_cons, List.take_zero, List.drop_succ_cons, List.drop_zero]
  repeat (any_goals (first | go_big_quiet_step ((go_at_call 55; with_reducible exact Calls.regrown_of (hIq.out _ _))) | quiet_step ((go_at_call 55; with_reducible exact Calls.regrown_of (hIq.out _ _)))))
  refine wpQuiet_nil ?_
  intro w4 hw4
  go_upto_region 3 with (go_at_call 20; refine (hF.out _ (hR3.out.below hw4 hR3.out.lt)).mono ?_; rintro e w5 ⟨rfl, hG5, hR5⟩)
  have hGt := (Grg.of (g := g) hw4).trans hG5
  replace x0 := (hGt.cell hl3 hn1).trans x0
  replace x1 := (hGt.cell hl3 hn1).trans x1
  replace x2 := (hGt.cell hl3 hn1).trans x2
  replace x3 := (hGt.cell hl3 hn1).trans x3
  replace x4 := (hGt.cell hl3 hn1).trans x4
  replace x5 := (hGt.cell hl3 hn1).trans x5
  have hGu := hG3.out.trans hGt
  obtain ⟨u0, u1, u2, u3, u4, u5, uf⟩ := keep6 hGu hla hwg z0 z1 z2 z3 z4 z5 hfa
  have g0 := uf 0
  have g1 := uf 1
  have g2 := uf 2
  have g3 := uf 3
  have g4 := uf 4
  have g5 := uf 5
  have hlw : w.heap.size < w5.heap.size := by have := hGu.size; omega
  have hl5 : w2.heap.size < w5.heap.size := by have := hGt.size; omega
  have hGf := hide (hGa.out.trans hGu)
  replace hR5 := hide hR5
  clear hGt hGu hG5 hG3 hR3 hw4 uf hfa z0 z1 z2 z3 z4 z5
  go_wp2
  obtain ⟨q1, q2⟩ := set6r (r := w.heap.size) hGf.out hR5.out (Nat.le_refl _) lt (.int .u8 (k : Int)) (.string S) (.int .i64 (wd : Int)) (.int .u64 hi) (.int .u64 lo) (.int .i64 (pl : Int))
  exact bodyPost_ret (v := .agg #[.int .u8 (k : Int), .string S, .int .i64 (wd : Int), .int .u64 hi, .int .u64 lo, .int .i64 (pl : Int)]) (by simp [results, Tryz.results23, go_sem, u0, u1, u2, u3, u4, u5]) rfl ⟨rfl, q1, q2⟩
end Go.Proofs.YtbjokgnnklcbcaaGreatDoor

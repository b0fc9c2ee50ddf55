import Derived.Test.YtbjokgnnklcbcaaGreatDoorTpb33
import Derived.RegionDies
set_option linter.all false
/-! Layer 13: Read, whole. -/
namespace Go.Proofs.YtbjokgnnklcbcaaGreatDoor
open Go.RowKit
attribute [local go_sem] run_panic_iface
theorem set6b {w W : World} (h : Below w.heap.size w W) (a b c d e f : Value) : Below w.heap.size w ((((((W.setCell ⟨w.heap.size + 1, 0, none⟩ a).setCell ⟨w.heap.size + 1, 1, none⟩ b).setCell ⟨w.heap.size + 1, 2, none⟩ c).setCell ⟨w.heap.size + 2, 0, none⟩ d).setCell ⟨w.heap.size + 2, 1, none⟩ e).setCell ⟨w.heap.size + 2, 2, none⟩ f) :=
 (((((h.setCell (p := ⟨w.heap.size + 1, 0, none⟩) (Nat.le_succ _) a).setCell (p := ⟨w.heap.size + 1, 1, none⟩) (Nat.le_succ _) b).setCell (p := ⟨w.heap.size + 1, 2, none⟩) (Nat.le_succ _) c).setCell (p := ⟨w.heap.size + 2, 0, none⟩) (Nat.le_add_right _ _) d).setCell (p := ⟨w.heap.size + 2, 1, none⟩) (Nat.le_add_right _ _) e).setCell (p := ⟨w.heap.size + 2, 2, none⟩) (Nat.le_add_right _ _) f
theorem cell_same {w : World} {a : Addr} {v : Value} (h : w.cell? a = some v) (p : Addr) : (w.setCell a v).cell? p = w.cell? p := by
 by_cases hp : a = p
 ·subst hp
  rw [World.cell?_setCell_same _ _ _ h, h]
 ·exact World.cell?_setCell_other _ _ _ _ hp
theorem ReB.same {W : World} {b : Nat} {s : ByteArray} (h : ReB W b s) (p : Addr) : (((W.setCell ⟨b + 2, 0, none⟩ (.int .i64 0)).setCell ⟨b + 2, 1, none⟩ (.int .i64 0)).setCell ⟨b + 2, 2, none⟩ (.int .i64 0)).cell? p = W.cell? p := by
 have h1 : (W.setCell ⟨b + 2, 0, none⟩ (.int .i64 0)).cell? ⟨b + 2, 1, none⟩ = some (.int .i64 0) := (cell_same h.e0 _).trans h.e1
 have h2 : ((W.setCell ⟨b + 2, 0, none⟩ (.int .i64 0)).setCell ⟨b + 2, 1, none⟩ (.int .i64 0)).cell? ⟨b + 2, 2, none⟩ = some (.int .i64 0) := (cell_same h1 _).trans ((cell_same h.e0 _).trans h.e2)
 rw [cell_same h2, cell_same h1, cell_same h.e0]
theorem ReB.setF {W : World} {b : Nat} {s : ByteArray} (h : ReB W b s) : ReB (((W.setCell ⟨b + 2, 0, none⟩ (.int .i64 0)).setCell ⟨b + 2, 1, none⟩ (.int .i64 0)).setCell ⟨b + 2, 2, none⟩ (.int .i64 0)) b s := by
 obtain ⟨lt, c0, z0, z1, z2, e0, e1, e2, f0, f1, f2, g0, g1, g2⟩ := h
 refine ⟨by rw [setCell_size, setCell_size, setCell_size]; exact lt, ?_, ?_, ?_, ?_, ?_, ?_, ?_, ?_, ?_, ?_, ?_, ?_, ?_⟩ <;> simp [go_sem, c0, z0, z1, z2, e0, e1, e2, f0, f1, f2, g0, g1, g2]
set_option maxRecDepth 100000 in
set_option maxHeartbeats 8000000 in
theorem tread_any (hSo : SortC) (s : ByteArray) (w : World) (mm : Int) (hs : s.size ≤ 2000000) (hV : VarS w) (hm : w.cell? ⟨0, 0, none⟩ = some (.int .i64 mm)) (h0 : 0 < w.heap.size) :
  Calls Tryz.prog 6 #[.string s] w fun e w' => ReadE s.data.toList e w' ∧ Below w.heap.size w w' := by
 have hmf : ∀ (fn : Fn) (first cap : Array Value) (w : World), (Instr.makeFunc fn first cap).run Tryz.prog w = .ok (.func fn first cap) w := fun _ _ _ _ => rfl
 obtain ⟨hL, hB⟩ := re0 w s
 obtain ⟨wc, hwc⟩ : ∃ wc, (((w.alloc (.cells #[.string s] 9)).alloc (.cells #[.slice none 0 0, .slice none 0 0, .slice none 0 0] 27)).alloc (.cells #[.int .i64 0, .int .i64 0, .int .i64 0] 32)) = wc := ⟨_, rfl⟩
 rw [hwc] at hL hB
 have hVc := hV.below hB (Nat.le_refl _)
 have hLx := lexc_any s wc (by omega) hVc
 have hmc := ((bcell' hB).1 0 0 h0).trans hm
 unfold LexC at hLx
 cases hR : lexR s.data.toList with
 | error x =>
  obtain ⟨n, k⟩ := x
  rw [hR] at hLx
  have hrd : readT s.data.toList = .error (n, k) := by unfold readT; rw [hR]
  have hfin := hide (fun W => ReadE.err hrd W)
  have hn0 := lexR_ne' hR
  simp only [faultV] at hLx hfin hn0
  generalize (((placeR (s.data.toList.take k)).1 : Nat) : Int) = pl at hLx hfin
  generalize (((placeR (s.data.toList.take k)).2 : Nat) : Int) = pc at hLx hfin
  replace hLx := hide hLx
  have hnb : (n != 0) = true := by simp [hn0]
  replace hn0 := hide hn0
  generalize ReadE s.data.toList = Q at hfin ⊢
  clear hR hrd hVc hV hmc hm
  replace hL := hide hL
  replace hB := hide hB
  replace hwc := hide hwc
  obtain ⟨lt, c0, z0, z1, z2, e0, e1, e2, f0, f1, f2, g0, g1, g2⟩ := hL.out
  go_enter_defers Tryz.func6, Tryz.ntmps6
  go_upto_region 1 with fail
  rw [hwc.out]
  go_upto_region 3 with (go_at_call 14; refine hLx.out.mono ?_; rintro e w3 ⟨rfl, hb3⟩; have kb := hL.out.below hb3 lt; obtain ⟨y, yc0, yz0, yz1, yz2, ye0, ye1, ye2, yf0, yf1, yf2, yg0, yg1, yg2⟩ := kb)
  have hBf := hide (hB.out.trans (hb3.mono hB.out.size))
  clear hb3
  obtain ⟨w4, hw4⟩ : ∃ w4, ((w3.setCell ⟨w.heap.size + 1 + 1, 0, none⟩ (.int .i64 n)).setCell ⟨w.heap.size + 1 + 1, 1, none⟩ (.int .i64 pl)).setCell ⟨w.heap.size + 1 + 1, 2, none⟩ (.int .i64 pc) = w4 := ⟨_, rfl⟩
  have hB4 := hide (show Below w.heap.size w w4 from hw4 ▸ pl_below3 hBf.out (by omega) _ _ _)
  have a0 : w4.cell? ⟨w.heap.size + 1, 0, none⟩ = some (.slice none 0 0) := by rw [← hw4]; simp [go_sem, yz0]
  have a1 : w4.cell? ⟨w.heap.size + 1, 1, none⟩ = some (.slice none 0 0) := by rw [← hw4]; simp [go_sem, yz1]
  have a2 : w4.cell? ⟨w.heap.size + 1, 2, none⟩ = some (.slice none 0 0) := by rw [← hw4]; simp [go_sem, yz2]
  have b0 : w4.cell? ⟨w.heap.size + 1 + 1, 0, none⟩ = some (.int .i64 n) := by rw [← hw4]; simp [go_sem, ye0, ye1, ye2]
  have b1 : w4.cell? ⟨w.heap.size + 1 + 1, 1, none⟩ = some (.int .i64 pl) := by rw [← hw4]; simp [go_sem, ye0, ye1, ye2]
  have b2 : w4.cell? ⟨w.heap.size + 1 + 1, 2, none⟩ = some (.int .i64 pc) := by rw [← hw4]; simp [go_sem, ye0, ye1, ye2]
  have r0 : w4.frozen? ⟨w.heap.size + 1, 0, none⟩ = false := by rw [← hw4]; simp [go_sem, yf0]
  have r1 : w4.frozen? ⟨w.heap.size + 1, 1, none⟩ = false := by rw [← hw4]; simp [go_sem, yf1]
  have r2 : w4.frozen? ⟨w.heap.size + 1, 2, none⟩ = false := by rw [← hw4]; simp [go_sem, yf2]
  have s0 : w4.frozen? ⟨w.heap.size + 1 + 1, 0, none⟩ = false := by rw [← hw4]; simp [go_sem, yg0]
  have s1 : w4.frozen? ⟨w.heap.size + 1 + 1, 1, none⟩ = false := by rw [← hw4]; simp [go_sem, yg1]
  have s2 : w4.frozen? ⟨w.heap.size + 1 + 1, 2, none⟩ = false := by rw [← hw4]; simp [go_sem, yg2]
  have l1 : w.heap.size + 1 < w4.heap.size := by rw [← hw4, setCell_size, setCell_size, setCell_size]; omega
  have l2 : w.heap.size + 1 + 1 < w4.heap.size := by rw [← hw4, setCell_size, setCell_size, setCell_size]; omega
  rw [hw4]
  clear hw4 y yc0 yz0 yz1 yz2 ye0 ye1 ye2 yf0 yf1 yf2 yg0 yg1 yg2 hLx hL hwc hBf
  go_region
  go_wp2
  have hq := hide (((((((hB4.out.setCell (p := ⟨w.heap.size + 1, 0, none⟩) (Nat.le_succ _) (.slice none 0 0)).setCell (p := ⟨w.heap.size + 1, 1, none⟩) (Nat.le_succ _) (.slice none 0 0)).setCell (p := ⟨w.heap.size + 1, 2, none⟩) (Nat.le_succ _) (.slice none 0 0)).setCell (p := ⟨w.heap.size + 1 + 1, 0, none⟩) (by show w.heap.size ≤ w.heap.size + 1 + 1; omega) (.int .i64 n)).setCell (p := ⟨w.heap.size + 1 + 1, 1, none⟩) (by show w.heap.size ≤ w.heap.size + 1 + 1; omega) (.int .i64 pl)).setCell (p := ⟨w.heap.size + 1 + 1, 2, none⟩) (by show w.heap.size ≤ w.heap.size + 1 + 1; omega) (.int .i64 pc)).drew)
  simp [bodyPostD, Leaves, settle, results, Tryz.results6, go_sem, a0, a1, a2, b0, b1, b2]
  exact ⟨hfin.out _, hq.out⟩
 | ok r =>
  rw [hR] at hLx
  replace hLx := hide (show Calls Tryz.prog 14 #[.string s] wc fun e w' => (∃ A cap, e = .returned (.tuple #[.slice A r.length cap, .agg #[.int .i64 0, .int .i64 0, .int .i64 0]]) ∧ Sl 6 rTk w' w'.heap.size A r ∧ r.length ≤ cap ∧ cap ≤ maxLen) ∧ Below wc.heap.size wc w' from hLx)
  have hrd : readT s.data.toList = allT r := by unfold readT; rw [hR]
  have hEn := hide (lex_hasEnd hR)
  have hlen := lex_len hR
  have her := hide (fun (x : Int × Nat) (h : allT r = .error x) => all_err hR h)
  have hfE := hide (fun (W : World) (x : Int × Nat) (h : allT r = .error x) => ReadE.err (hrd.trans h) W)
  have hfO := hide (fun (W : World) (n : Net) (h : allT r = .ok n) (A1 A2 A3 : Option Addr) (c1 c2 c3 : Nat) (hN : NetS W W.heap.size A1 A2 A3 n) => ReadE.ok (hrd.trans h) c1 c2 c3 hN)
  generalize ReadE s.data.toList = Q at hfE hfO ⊢
  clear hR hrd hVc hV
  replace hL := hide hL
  replace hB := hide hB
  replace hwc := hide hwc
  obtain ⟨lt, c0, z0, z1, z2, e0, e1, e2, f0, f1, f2, g0, g1, g2⟩ := hL.out
  go_enter_defers Tryz.func6, Tryz.ntmps6
  go_upto_region 1 with fail
  rw [hwc.out]
  go_upto_region 5 with (go_at_call 14; refine hLx.out.mono ?_; rintro e w3 ⟨⟨A, cap, rfl, hSl, hc1, hc2⟩, hb3⟩; have kb := hL.out.below hb3 lt; obtain ⟨y, yc0, yz0, yz1, yz2, ye0, ye1, ye2, yf0, yf1, yf2, yg0, yg1, yg2⟩ := kb)
  have hB4 := hide (show Below w.heap.size w (((w3.setCell ⟨w.heap.size + 1 + 1, 0, none⟩ (.int .i64 0)).setCell ⟨w.heap.size + 1 + 1, 1, none⟩ (.int .i64 0)).setCell ⟨w.heap.size + 1 + 1, 2, none⟩ (.int .i64 0)) from pl_below3 (hB.out.trans (hb3.mono hB.out.size)) (by omega) _ _ _)
  have hL4 := hide (show ReB (((w3.setCell ⟨w.heap.size + 1 + 1, 0, none⟩ (.int .i64 0)).setCell ⟨w.heap.size + 1 + 1, 1, none⟩ (.int .i64 0)).setCell ⟨w.heap.size + 1 + 1, 2, none⟩ (.int .i64 0)) w.heap.size s from (hL.out.below hb3 lt).setF)
  have hS4 := hide (show Sl 6 rTk (((w3.setCell ⟨w.heap.size + 1 + 1, 0, none⟩ (.int .i64 0)).setCell ⟨w.heap.size + 1 + 1, 1, none⟩ (.int .i64 0)).setCell ⟨w.heap.size + 1 + 1, 2, none⟩ (.int .i64 0)) w3.heap.size A r from hSl.keep sta_tk fun q _ => (hL.out.below hb3 lt).same q)
  have hz4 : (((w3.setCell ⟨w.heap.size + 1 + 1, 0, none⟩ (.int .i64 0)).setCell ⟨w.heap.size + 1 + 1, 1, none⟩ (.int .i64 0)).setCell ⟨w.heap.size + 1 + 1, 2, none⟩ (.int .i64 0)).heap.size = w3.heap.size := by rw [setCell_size, setCell_size, setCell_size]
  generalize (((w3.setCell ⟨w.heap.size + 1 + 1, 0, none⟩ (.int .i64 0)).setCell ⟨w.heap.size + 1 + 1, 1, none⟩ (.int .i64 0)).setCell ⟨w.heap.size + 1 + 1, 2, none⟩ (.int .i64 0)) = w4 at hB4 hL4 hS4 hz4 ⊢
  have hm4 := ((bcell' hB4.out).1 0 0 h0).trans hm
  obtain ⟨w5, hw5, hs5, hb5, -, -⟩ := box1 w4 #[.slice A r.length cap, .slice none 0 0, .slice none 0 0, .slice none 0 0] 54
  have hk5 : w5.heap[w4.heap.size]? = some (.cells #[.slice A r.length cap, .slice none 0 0, .slice none 0 0, .slice none 0 0] 54 (0, 0)) := by rw [← hw5]; exact heap_alloc_new w4 _
  have hS5 : Sl 6 rTk w5 w4.heap.size A r := by
   have h := hS4.out.more sta_tk (show w3.heap.size ≤ w4.heap.size by omega)
   exact h.keep sta_tk fun q hq => hb5.cell hq
  have hRd := hide (show RdB w5.drew w4.heap.size r (.slice none 0 0) (.slice none 0 0) (.slice none 0 0) from ⟨hEn.out, A, cap, hc1, hc2, hk5, hS5⟩)
  have lt4 := hL4.out.lt
  have hL5 := hide (hL4.out.below hb5 lt4)
  have hAll := all13p hSo hRd.out (show 0 < w4.heap.size by omega) (show w5.drew.cell? ⟨0, 0, none⟩ = some (.int .i64 mm) from ((bcell' hb5).1 0 0 (by omega)).trans hm4) hlen
  unfold allE13 at hAll
  have hB5 := hide (hB4.out.trans (hb5.mono hB4.out.size))
  obtain ⟨-, -, z0, z1, z2, e0, e1, e2, f0, f1, f2, g0, g1, g2⟩ := hL4.out
  replace hz4 := hide hz4
  replace hs5' := hide hs5
  have l1 : w.heap.size + 1 < w4.heap.size := by omega
  have l2 : w.heap.size + 2 < w4.heap.size := by omega
  clear hSl hc1 hc2 hb3 y yc0 yz0 yz1 yz2 ye0 ye1 ye2 yf0 yf1 yf2 yg0 yg1 yg2 hS4 hS5 hk5 hLx hL hB hwc hEn
  cases ha : allT r with
  | error x =>
   rw [ha] at hAll
   obtain ⟨x, pk⟩ := x
   obtain ⟨hx0, hxk⟩ := her.out _ ha
   have hfin := hide (fun W => hfE.out W _ ha)
   simp only at hx0 hxk
   replace hAll := hide (show Calls Tryz.prog 17 #[.pointer (some ⟨w4.heap.size, 0, none⟩)] w5.drew fun e w' => Grg w4.heap.size w5.drew w' ∧ e = pwr (x, pk) from hAll)
   clear ha hfE hfO her
   have k5 := bcell' hb5
   have c0 := (k5.1 _ 0 l2).trans e0
   have c1 := (k5.1 _ 1 l2).trans e1
   have c2 := (k5.1 _ 2 l2).trans e2
   clear k5
   refine wp_region_any (by kernel_rfl) ?_
   change wpAny _ _ _ _ _ _ _ (World.drew _)
   refine wpAny_ready (rs := [0, 4]) (by kernel_rfl) (by simp) ?_
   refine AllReady.cons rfl (fun K hK => ?_) (AllReady.cons rfl (fun K hK => ?_) AllReady.nil)
   ·go_simp
    refine hK _ _ ?_
    clear hK K
    refine wpAny_ready (rs := [1, 4]) (by kernel_rfl) (by simp) ?_
    refine AllReady.cons rfl (fun K hK => ?_) (AllReady.cons rfl (fun K hK => ?_) AllReady.nil)
    ·go_simp
     refine hK _ _ ?_
     clear hK K
     refine wpAny_ready (rs := [2, 4]) (by kernel_rfl) (by simp) ?_
     refine AllReady.cons rfl (fun K hK => ?_) (AllReady.cons rfl (fun K hK => ?_) AllReady.nil)
     ·go_simp
      refine hK _ _ ?_
      clear hK K
      refine wpAny_ready (rs := [3, 4]) (by kernel_rfl) (by simp) ?_
      refine AllReady.cons rfl (fun K hK => ?_) (AllReady.cons rfl (fun K hK => ?_) AllReady.nil)
      ·go_simp
       refine hAll.out.mono ?_
       rintro e w6 ⟨hG6, rfl⟩
       have hb6 := hide (show Below w4.heap.size w5 w6 from (Below.refl _ _).drew.trans (hG6.below (Nat.le_refl _) (by show w4.heap.size ≤ w5.heap.size; omega)))
       have hL6 := hide (hL5.out.below hb6.out (by omega))
       go_wp2
       refine leaves_cons (f := 15) (args := #[.pointer (some ⟨w.heap.size, 0, none⟩), .pointer (some ⟨w.heap.size + 1, 0, none⟩), .pointer (some ⟨w.heap.size + 2, 0, none⟩)]) (by simp) (by simp [go_sem]) ?_
       refine (readd_wrong w.heap.size pk s x [] _ hL6.out hxk (by omega) hx0).mono ?_
       rintro e u' w'' ⟨rfl, rfl, w9, hb9, rfl⟩
       obtain ⟨lt9, q0, q1, q2, q3, q4, q5, q6, q7, q8, q9, q10, q11, q12⟩ := hL6.out.below hb9 hL6.out.lt
       have hz6 := hb6.out.size
       have hq := hide (hB5.out.trans ((hb6.out.trans (hb9.mono (by omega))).mono (by omega)))
       simp only [Leaves, settle]
       simp [Leaves, settle, results, Tryz.results6, go_sem, q0, q1, q2, q3, q4, q5, q6]
       exact ⟨hfin.out _, set6b hq.out _ _ _ _ _ _⟩
      ·go_simp
       refine hK _ _ ?_
       clear hK K
       refine wpAny_ready (rs := [3]) (by kernel_rfl) (by simp) ?_
       refine AllReady.cons rfl (fun K hK => ?_) AllReady.nil
       go_simp
       refine hAll.out.mono ?_
       rintro e w6 ⟨hG6, rfl⟩
       have hb6 := hide (show Below w4.heap.size w5 w6 from (Below.refl _ _).drew.trans (hG6.below (Nat.le_refl _) (by show w4.heap.size ≤ w5.heap.size; omega)))
       have hL6 := hide (hL5.out.below hb6.out (by omega))
       go_wp2
       refine leaves_cons (f := 15) (args := #[.pointer (some ⟨w.heap.size, 0, none⟩), .pointer (some ⟨w.heap.size + 1, 0, none⟩), .pointer (some ⟨w.heap.size + 2, 0, none⟩)]) (by simp) (by simp [go_sem]) ?_
       refine (readd_wrong w.heap.size pk s x [] _ hL6.out hxk (by omega) hx0).mono ?_
       rintro e u' w'' ⟨rfl, rfl, w9, hb9, rfl⟩
       obtain ⟨lt9, q0, q1, q2, q3, q4, q5, q6, q7, q8, q9, q10, q11, q12⟩ := hL6.out.below hb9 hL6.out.lt
       have hz6 := hb6.out.size
       have hq := hide (hB5.out.trans ((hb6.out.trans (hb9.mono (by omega))).mono (by omega)))
       simp only [Leaves, settle]
       simp [Leaves, settle, results, Tryz.results6, go_sem, q0, q1, q2, q3, q4, q5, q6]
       exact ⟨hfin.out _, set6b hq.out _ _ _ _ _ _⟩
     ·go_simp
      refine hK _ _ ?_
      clear hK K
      refine wpAny_ready (rs := [2]) (by kernel_rfl) (by simp) ?_
      refine AllReady.cons rfl (fun K hK => ?_) AllReady.nil
      go_simp
      refine hK _ _ ?_
      clear hK K
      refine wpAny_ready (rs := [3]) (by kernel_rfl) (by simp) ?_
      refine AllReady.cons rfl (fun K hK => ?_) AllReady.nil
      go_simp
      refine hAll.out.mono ?_
      rintro e w6 ⟨hG6, rfl⟩
      have hb6 := hide (show Below w4.heap.size w5 w6 from (Below.refl _ _).drew.trans (hG6.below (Nat.le_refl _) (by show w4.heap.size ≤ w5.heap.size; omega)))
      have hL6 := hide (hL5.out.below hb6.out (by omega))
      go_wp2
      refine leaves_cons (f := 15) (args := #[.pointer (some ⟨w.heap.size, 0, none⟩), .pointer (some ⟨w.heap.size + 1, 0, none⟩), .pointer (some ⟨w.heap.size + 2, 0, none⟩)]) (by simp) (by simp [go_sem]) ?_
      refine (readd_wrong w.heap.size pk s x [] _ hL6.out hxk (by omega) hx0).mono ?_
      rintro e u' w'' ⟨rfl, rfl, w9, hb9, rfl⟩
      obtain ⟨lt9, q0, q1, q2, q3, q4, q5, q6, q7, q8, q9, q10, q11, q12⟩ := hL6.out.below hb9 hL6.out.lt
      have hz6 := hb6.out.size
      have hq := hide (hB5.out.trans ((hb6.out.trans (hb9.mono (by omega))).mono (by omega)))
      simp only [Leaves, settle]
      simp [Leaves, settle, results, Tryz.results6, go_sem, q0, q1, q2, q3, q4, q5, q6]
      exact ⟨hfin.out _, set6b hq.out _ _ _ _ _ _⟩
    ·go_simp
     refine hK _ _ ?_
     clear hK K
     refine wpAny_ready (rs := [1]) (by kernel_rfl) (by simp) ?_
     refine AllReady.cons rfl (fun K hK => ?_) AllReady.nil
     go_simp
     refine hK _ _ ?_
     clear hK K
     refine wpAny_ready (rs := [2]) (by kernel_rfl) (by simp) ?_
     refine AllReady.cons rfl (fun K hK => ?_) AllReady.nil
     go_simp
     refine hK _ _ ?_
     clear hK K
     refine wpAny_ready (rs := [3]) (by kernel_rfl) (by simp) ?_
     refine AllReady.cons rfl (fun K hK => ?_) AllReady.nil
     go_simp
     refine hAll.out.mono ?_
     rintro e w6 ⟨hG6, rfl⟩
     have hb6 := hide (show Below w4.heap.size w5 w6 from (Below.refl _ _).drew.trans (hG6.below (Nat.le_refl _) (by show w4.heap.size ≤ w5.heap.size; omega)))
     have hL6 := hide (hL5.out.below hb6.out (by omega))
     go_wp2
     refine leaves_cons (f := 15) (args := #[.pointer (some ⟨w.heap.size, 0, none⟩), .pointer (some ⟨w.heap.size + 1, 0, none⟩), .pointer (some ⟨w.heap.size + 2, 0, none⟩)]) (by simp) (by simp [go_sem]) ?_
     refine (readd_wrong w.heap.size pk s x [] _ hL6.out hxk (by omega) hx0).mono ?_
     rintro e u' w'' ⟨rfl, rfl, w9, hb9, rfl⟩
     obtain ⟨lt9, q0, q1, q2, q3, q4, q5, q6, q7, q8, q9, q10, q11, q12⟩ := hL6.out.below hb9 hL6.out.lt
     have hz6 := hb6.out.size
     have hq := hide (hB5.out.trans ((hb6.out.trans (hb9.mono (by omega))).mono (by omega)))
     simp only [Leaves, settle]
     simp [Leaves, settle, results, Tryz.results6, go_sem, q0, q1, q2, q3, q4, q5, q6]
     exact ⟨hfin.out _, set6b hq.out _ _ _ _ _ _⟩
   ·go_simp
    refine hK _ _ ?_
    clear hK K
    refine wpAny_ready (rs := [0]) (by kernel_rfl) (by simp) ?_
    refine AllReady.cons rfl (fun K hK => ?_) AllReady.nil
    go_simp
    refine hK _ _ ?_
    clear hK K
    refine wpAny_ready (rs := [1]) (by kernel_rfl) (by simp) ?_
    refine AllReady.cons rfl (fun K hK => ?_) AllReady.nil
    go_simp
    refine hK _ _ ?_
    clear hK K
    refine wpAny_ready (rs := [2]) (by kernel_rfl) (by simp) ?_
    refine AllReady.cons rfl (fun K hK => ?_) AllReady.nil
    go_simp
    refine hK _ _ ?_
    clear hK K
    refine wpAny_ready (rs := [3]) (by kernel_rfl) (by simp) ?_
    refine AllReady.cons rfl (fun K hK => ?_) AllReady.nil
    go_simp
    refine hAll.out.mono ?_
    rintro e w6 ⟨hG6, rfl⟩
    have hb6 := hide (show Below w4.heap.size w5 w6 from (Below.refl _ _).drew.trans (hG6.below (Nat.le_refl _) (by show w4.heap.size ≤ w5.heap.size; omega)))
    have hL6 := hide (hL5.out.below hb6.out (by omega))
    go_wp2
    refine leaves_cons (f := 15) (args := #[.pointer (some ⟨w.heap.size, 0, none⟩), .pointer (some ⟨w.heap.size + 1, 0, none⟩), .pointer (some ⟨w.heap.size + 2, 0, none⟩)]) (by simp) (by simp [go_sem]) ?_
    refine (readd_wrong w.heap.size pk s x [] _ hL6.out hxk (by omega) hx0).mono ?_
    rintro e u' w'' ⟨rfl, rfl, w9, hb9, rfl⟩
    obtain ⟨lt9, q0, q1, q2, q3, q4, q5, q6, q7, q8, q9, q10, q11, q12⟩ := hL6.out.below hb9 hL6.out.lt
    have hz6 := hb6.out.size
    have hq := hide (hB5.out.trans ((hb6.out.trans (hb9.mono (by omega))).mono (by omega)))
    simp only [Leaves, settle]
    simp [Leaves, settle, results, Tryz.results6, go_sem, q0, q1, q2, q3, q4, q5, q6]
    exact ⟨hfin.out _, set6b hq.out _ _ _ _ _ _⟩
  | ok n =>
   rw [ha] at hAll
   have hfin := hide (fun W => hfO.out W n ha)
   replace hAll := hide (show Calls Tryz.prog 17 #[.pointer (some ⟨w4.heap.size, 0, none⟩)] w5.drew fun e w' => Grg w4.heap.size w5.drew w' ∧ ∃ A1 A2 A3 c1 c2 c3, e = .returned (.agg #[.slice A1 n.sw.length c1, .slice A2 n.ports.length c2, .slice A3 n.links.length c3]) ∧ NetN w' w5.heap.size (.slice A1 n.sw.length c1) (.slice A2 n.ports.length c2) (.slice A3 n.links.length c3) n from hAll)
   clear ha hfE hfO her
   have k5 := bcell' hb5
   have c0 := (k5.1 _ 0 l2).trans e0
   have c1 := (k5.1 _ 1 l2).trans e1
   have c2 := (k5.1 _ 2 l2).trans e2
   have hAl2 := hide (show Calls Tryz.prog 17 #[.pointer (some ⟨w4.heap.size, 0, none⟩)] w5.drew fun e w' => (∃ A1 A2 A3 c1 c2 c3, e = .returned (.agg #[.slice A1 n.sw.length c1, .slice A2 n.ports.length c2, .slice A3 n.links.length c3]) ∧ Hid (NetN w' w5.heap.size (.slice A1 n.sw.length c1) (.slice A2 n.ports.length c2) (.slice A3 n.links.length c3) n)) ∧ Hid (Below w4.heap.size w5 w') ∧ w'.cell? ⟨w.heap.size + 1, 0, none⟩ = some (.slice none 0 0) ∧ w'.cell? ⟨w.heap.size + 1, 1, none⟩ = some (.slice none 0 0) ∧ w'.cell? ⟨w.heap.size + 1, 2, none⟩ = some (.slice none 0 0) ∧ w'.cell? ⟨w.heap.size + 2, 0, none⟩ = some (.int .i64 0) ∧ w'.cell? ⟨w.heap.size + 2, 1, none⟩ = some (.int .i64 0) ∧ w'.cell? ⟨w.heap.size + 2, 2, none⟩ = some (.int .i64 0) ∧ w'.frozen? ⟨w.heap.size + 1, 0, none⟩ = false ∧ w'.frozen? ⟨w.heap.size + 1, 1, none⟩ = false ∧ w'.frozen? ⟨w.heap.size + 1, 2, none⟩ = false ∧ w'.frozen? ⟨w.heap.size + 2, 0, none⟩ = false ∧ w'.frozen? ⟨w.heap.size + 2, 1, none⟩ = false ∧ w'.frozen? ⟨w.heap.size + 2, 2, none⟩ = false ∧ w.heap.size + 1 < w'.heap.size ∧ w.heap.size + 2 < w'.heap.size from hAll.out.mono fun e w' h => by
    obtain ⟨hG, A1, A2, A3, d1, d2, d3, rfl, hN⟩ := h
    have hb : Below w4.heap.size w5 w' := (Below.refl _ _).drew.trans (hG.below (Nat.le_refl _) (by show w4.heap.size ≤ w5.heap.size; omega))
    have kk := bcell' (hb5.trans hb)
    have hz := hb.size
    exact ⟨⟨A1, A2, A3, d1, d2, d3, rfl, hide hN⟩, hide hb, (kk.1 _ 0 l1).trans z0, (kk.1 _ 1 l1).trans z1, (kk.1 _ 2 l1).trans z2, (kk.1 _ 0 l2).trans e0, (kk.1 _ 1 l2).trans e1, (kk.1 _ 2 l2).trans e2, (kk.2 _ 0 l1).trans f0, (kk.2 _ 1 l1).trans f1, (kk.2 _ 2 l1).trans f2, (kk.2 _ 0 l2).trans g0, (kk.2 _ 1 l2).trans g1, (kk.2 _ 2 l2).trans g2, by omega, by omega⟩)
   clear k5
   refine wp_region_noPanic ?_
   go_region_with (go_at_call 17; refine hAl2.out.mono ?_; rintro e w6 ⟨⟨A1, A2, A3, d1, d2, d3, rfl, hN⟩, hb6, y0, y1, y2, y3, y4, y5, y6, y7, y8, y9, y10, y11, y12, y13⟩)
   all_goals refine NoPanic.normal ?_
   all_goals (
    go_wp2
    have hz6 := hb6.out.size
    have hW6 := hide (hB5.out.trans (hb6.out.mono (by omega)))
    have hBF := hide (set6b hW6.out (.slice A1 n.sw.length d1) (.slice A2 n.ports.length d2) (.slice A3 n.links.length d3) (.int .i64 0) (.int .i64 0) (.int .i64 0))
    have hNF := hide (setB (q := w.heap.size + 1) hN.out (by omega) (by omega) (.slice A1 n.sw.length d1) (.slice A2 n.ports.length d2) (.slice A3 n.links.length d3) (.int .i64 0) (.int .i64 0) (.int .i64 0))
    obtain ⟨w7, hw7⟩ : ∃ w7, ((((((w6.setCell ⟨w.heap.size + 1, 0, none⟩ (.slice A1 n.sw.length d1)).setCell ⟨w.heap.size + 1, 1, none⟩ (.slice A2 n.ports.length d2)).setCell ⟨w.heap.size + 1, 2, none⟩ (.slice A3 n.links.length d3)).setCell ⟨w.heap.size + 1 + 1, 0, none⟩ (.int .i64 0)).setCell ⟨w.heap.size + 1 + 1, 1, none⟩ (.int .i64 0)).setCell ⟨w.heap.size + 1 + 1, 2, none⟩ (.int .i64 0)) = w7 := ⟨_, rfl⟩
    have q0 : w7.cell? ⟨w.heap.size + 1, 0, none⟩ = some (.slice A1 n.sw.length d1) := by rw [← hw7]; simp [go_sem, y0, y1, y2, y3, y4, y5]
    have q1 : w7.cell? ⟨w.heap.size + 1, 1, none⟩ = some (.slice A2 n.ports.length d2) := by rw [← hw7]; simp [go_sem, y0, y1, y2, y3, y4, y5]
    have q2 : w7.cell? ⟨w.heap.size + 1, 2, none⟩ = some (.slice A3 n.links.length d3) := by rw [← hw7]; simp [go_sem, y0, y1, y2, y3, y4, y5]
    have q3 : w7.cell? ⟨w.heap.size + 1 + 1, 0, none⟩ = some (.int .i64 0) := by rw [← hw7]; simp [go_sem, y0, y1, y2, y3, y4, y5]
    have q4 : w7.cell? ⟨w.heap.size + 1 + 1, 1, none⟩ = some (.int .i64 0) := by rw [← hw7]; simp [go_sem, y0, y1, y2, y3, y4, y5]
    have q5 : w7.cell? ⟨w.heap.size + 1 + 1, 2, none⟩ = some (.int .i64 0) := by rw [← hw7]; simp [go_sem, y0, y1, y2, y3, y4, y5]
    have l1' : w.heap.size + 1 < w7.heap.size := by rw [← hw7]; simp only [setCell_size]; omega
    have l2' : w.heap.size + 1 + 1 < w7.heap.size := by rw [← hw7]; simp only [setCell_size]; omega
    have hBF' := hide (show Below w.heap.size w w7 from hw7 ▸ hBF.out)
    have hNF' := hide (show NetN w7 w5.heap.size (.slice A1 n.sw.length d1) (.slice A2 n.ports.length d2) (.slice A3 n.links.length d3) n from hw7 ▸ hNF.out)
    rw [hw7]
    clear hw7 hBF hNF hW6 hN hb6 y0 y1 y2 y3 y4 y5 y6 y7 y8 y9 y10 y11 y12 y13
    refine leaves_cons (f := 15) (args := #[.pointer (some ⟨w.heap.size, 0, none⟩), .pointer (some ⟨w.heap.size + 1, 0, none⟩), .pointer (some ⟨w.heap.size + 2, 0, none⟩)]) (by simp) (by simp [go_sem]) ?_
    refine (readd_idle _ _ _ _).mono ?_
    rintro e u' w'' ⟨rfl, rfl, hb7⟩
    have kk := bcell' hb7
    replace q0 := (kk.1 _ 0 l1').trans q0
    replace q1 := (kk.1 _ 1 l1').trans q1
    replace q2 := (kk.1 _ 2 l1').trans q2
    replace q3 := (kk.1 _ 0 l2').trans q3
    replace q4 := (kk.1 _ 1 l2').trans q4
    replace q5 := (kk.1 _ 2 l2').trans q5
    obtain ⟨B1, B2, B3, x1, x2, x3, p1, p2, p3, hNS⟩ := hNF'.out.netS
    injection p1 with p1 p1' p1''
    injection p2 with p2 p2' p2''
    injection p3 with p3 p3' p3''
    subst p1 p1'' p2 p2'' p3 p3''
    have hFF := hide (hfin.out w'' A1 A2 A3 d1 d2 d3 ((hNS.below hb7).more hb7.size))
    unfold noFault at hFF
    have hBB := hide (hBF'.out.trans (hb7.mono hBF'.out.size))
    clear hNS kk hb7 hBF' hNF'
    simp [Leaves, settle, results, Tryz.results6, go_sem, q0, q1, q2, q3, q4, q5]
    exact ⟨hFF.out, hBB.out⟩)
end Go.Proofs.YtbjokgnnklcbcaaGreatDoor

import Derived.Test.YtjijggighppjbaaDnK
import Derived.Test.YtjijggighppjbaaDnZ
namespace Go.Proofs.Ytjijggighppjbaa
open Go.RowKit
theorem quiet_add {P : Program} {f : FuncId} {args : Array Value} {w : World} {a n : Nat} {v : Value}
    (h : Calls P f args (w.drewN (a + n)) fun e w' => e = .returned v ∧ ∃ m, w' = (w.drewN (a + n)).drewN m) :
    Calls P f args (w.drewN (a + n)) fun e w'' => e = .returned v ∧ ∃ m, w'' = w.drewN (a + m) :=
  h.mono fun _ _ ⟨he, m, hm⟩ => ⟨he, n + m, by rw [hm, World.drewN_drewN, Nat.add_assoc]⟩
theorem sets_len (many k : Int) : (refSets many k).length ≤ 40000 := refOut_len (clamp_le many 32) (clamp_le k 3)
theorem down_links (n : Net) (l : List Int) : (downNet n l).1.links.length ≤ n.links.length := by
  unfold downNet
  split
  · exact (keepL_sub n.links l).length_le
  · exact Nat.zero_le _
theorem same_self (n : Net) : sameB n n = true := by simp [sameB]
theorem RowsS.sl' {w : World} {base : Nat} {v : Value} {xs : List (List Int)} (h : RowsS w base v xs) : ∃ A cap, v = .slice A xs.length cap ∧ Sl 1 (rSl 1 rInt) w w.heap.size A xs := h.sl
theorem NetS.boxed {w : World} {B : Nat} {A1 A2 A3 : Option Addr} {n : Net} (h : NetS w B A1 A2 A3 n) (hB : B ≤ w.heap.size) (o : Obj) : NetS (w.alloc o) (w.alloc o).heap.size A1 A2 A3 n := (h.alloc hB o).more (by simp; omega)
set_option maxRecDepth 100000 in
set_option maxHeartbeats 4000000 in
theorem law_any (hknown : ∀ (w : World) (m0 : Int), w.cell? ⟨0, 0, none⟩ = some (.int .i64 m0) → Calls Try.prog 5 #[] w fun e w' => e = .returned (.bool true) ∧ Below w.heap.size w w')
    (n : Net) (l : List Int) (A1 A2 A3 L : Option Addr) (c1 c2 c3 lc : Nat) (many k : Int) (m0 : Int) (w : World) (h : NetS w w.heap.size A1 A2 A3 n) (hl : Sl 1 rInt w w.heap.size L l) (hlc : l.length ≤ lc) (hm0 : w.cell? ⟨0, 0, none⟩ = some (.int .i64 m0)) :
    Calls Try.prog 3 #[netV n A1 A2 A3 c1 c2 c3, .slice L l.length lc, .int .i64 many, .int .i64 k] w fun e w' => e = .returned (.bool true) ∧ Below w.heap.size w w' := by
  have h00 : 0 < w.heap.size := World.block_lt_of_cell? w _ hm0
  have l1 := h.1.len
  have l2 := h.2.1.len
  have l3 := h.2.2.len
  have ll := hl.len
  obtain ⟨wb, hwb, hsz, hw, hcb, -⟩ := box1 w #[.slice A1 n.sw.length c1, .slice A2 n.ports.length c2, .slice A3 n.links.length c3] 26
  have hS := hide ((h.below hw).more (show w.heap.size ≤ wb.heap.size by omega))
  have hSl := hide ((hl.below sta_int hw).more sta_int (show w.heap.size ≤ wb.heap.size by omega))
  have hbx : Bk wb w.heap.size 26 #[.slice A1 n.sw.length c1, .slice A2 n.ports.length c2, .slice A3 n.links.length c3] := by rw [← hwb]; exact Bk.new w _ _
  replace hbx := hide hbx
  have hmb := hide ((hw.cell (p := ⟨0, 0, none⟩) h00).trans hm0)
  replace hw := hide hw
  replace hknown := hide hknown
  have hsz' : w.heap.size < wb.heap.size := by omega
  replace hsz := hide hsz
  clear h hl hm0
  go_enter Try.func3, Try.ntmps3
  cases hg : greatB n with
  | true =>
    go_wp2_with fail
    refine (great_any n _ _ _ _ _ _ _ hS.out).mono ?_
    rintro e w1 ⟨rfl, hb1⟩
    have hm1 := hide ((hb1.cell (p := ⟨0, 0, none⟩) (by show 0 < _; omega)).trans hmb.out)
    replace hb1 := hide hb1
    go_wp2_with fail
    refine (hknown.out _ _ hm1.out).mono ?_
    rintro e w2 ⟨rfl, hb2⟩
    replace hb2 := hide hb2
    go_wp2
    go_ret
    exact ⟨rfl, hw.out.trans ((hb1.out.mono (by omega)).trans (hb2.out.mono (by have := hb1.out.size; omega)))⟩
  | false =>
    have hlk : n.links.length ≤ 60 := by
      simp only [greatB, Bool.or_eq_false_iff, decide_eq_false_iff_not] at hg
      omega
    by_cases hl20 : 20 < l.length
    · go_wp2_with fail
      refine (great_any n _ _ _ _ _ _ _ hS.out).mono ?_
      rintro e w1 ⟨rfl, hb1⟩
      have hm1 := hide ((hb1.cell (p := ⟨0, 0, none⟩) (by show 0 < _; omega)).trans hmb.out)
      replace hb1 := hide hb1
      go_wp2_with fail
      refine (hknown.out _ _ hm1.out).mono ?_
      rintro e w2 ⟨rfl, hb2⟩
      replace hb2 := hide hb2
      go_wp2
      go_ret
      exact ⟨rfl, hw.out.trans ((hb1.out.mono (by omega)).trans (hb2.out.mono (by have := hb1.out.size; omega)))⟩
    · go_wp2_with fail
      refine (great_any n _ _ _ _ _ _ _ hS.out).mono ?_
      rintro e w1 ⟨rfl, hb1⟩
      have hz1 := hb1.size
      have hS1 := hide ((hS.out.below hb1).more hz1)
      have hl1 := hide ((hSl.out.below sta_int hb1).more sta_int hz1)
      have hbx1 := hbx.out.below hb1 hbx.out.lt
      have hm1 := hide ((hb1.cell (p := ⟨0, 0, none⟩) (by show 0 < _; omega)).trans hmb.out)
      have hw1 := hide (hw.out.trans (hb1.mono (by omega)))
      have hcx := hbx1.cell
      replace hbx1 := hide hbx1
      clear hb1 hS hSl hbx hmb hw
      go_wp2_with fail
      refine (dnet_any n l _ _ _ _ _ _ _ _ m0 _ hS1.out hl1.out (by omega) hlc hm1.out).mono ?_
      rintro e w2 ⟨X1, X2, X3, x1, x2, x3, rfl, hX, hb2⟩
      have hz2 := hb2.size
      have hS2 := hide ((hS1.out.below hb2).more hz2)
      have hl2 := hide ((hl1.out.below sta_int hb2).more sta_int hz2)
      have hbx2 := hbx1.out.below hb2 hbx1.out.lt
      have hm2 := hide ((hb2.cell (p := ⟨0, 0, none⟩) (by show 0 < _; omega)).trans hm1.out)
      have hw2 := hide (hw1.out.trans (hb2.mono (by omega)))
      have hmX := hide (fun h0 => down_may (n := n) (l := l) h0)
      have hns := hide (net_same n l)
      have hXl := down_links n l
      have h02 : (downNet n l).2 = 0 ∨ (downNet n l).2 = 2 := by unfold downNet; split <;> simp
      generalize hxe : downNet n l = XE at hX hmX hns h02 hXl ⊢
      clear hxe
      obtain ⟨X, E⟩ := XE
      dsimp only at hX hmX hns h02 hXl ⊢
      clear hb2 hS1 hl1 hbx1 hm1 hw1 hcx
      have hcx := hbx2.cell
      have q2 : w.heap.size < w2.heap.size := by omega
      have q0 : 0 < w2.heap.size := by omega
      go_wp2_with fail
      -- ref48.Net
      refine (rnet_any n l _ _ _ _ _ _ _ _ _ (hS2.out.boxed (Nat.le_refl _) _) ((hl2.out.alloc sta_int (Nat.le_refl _) _).more sta_int (by simp)) (by omega) hlc).mono ?_
      rw [hns.out]
      rintro e w3 ⟨Y1, Y2, Y3, y1, y2, y3, rfl, hY, hb3⟩
      dsimp only at hY ⊢
      have hz3 := hb3.size
      simp only [World.size_alloc] at hz3
      have hb23 : Below w2.heap.size w2 w3 := ((Below.refl _ _).alloc (Nat.le_refl _) _).trans (hb3.mono (by simp))
      have hxb : Bk w3 w2.heap.size 26 #[.slice X1 X.sw.length x1, .slice X2 X.ports.length x2, .slice X3 X.links.length x3] := (Bk.new w2 _ _).below hb3 (by simp)
      have hbx3 := hbx2.below hb23 (by omega)
      have hS3 := hide ((hS2.out.below hb23).more (show w2.heap.size ≤ w3.heap.size by omega))
      have hX3 := hide ((hX.below hb23).more (show w2.heap.size ≤ w3.heap.size by omega))
      have hw3 := hide (hw2.out.trans (hb23.mono (by omega)))
      have hm3 := hide ((hb23.cell (p := ⟨0, 0, none⟩) q0).trans hm2.out)
      replace hY := hide hY
      have hcx3 := hbx3.cell
      have hcX3 := hxb.cell
      clear hb3 hb23 hS2 hl2 hX hw2 hm2 hcx hbx2
      generalize hB2 : w2.heap.size = bX at hz3 q2 q0 hxb hcX3 hX3 hz2 ⊢
      clear hB2
      have q3 : w.heap.size < w3.heap.size := by omega
      have q3b : bX < w3.heap.size := by omega
      replace hbx3 := hide hbx3
      replace hxb := hide hxb
      have hss := same_self X
      have hYb : ∀ o, NetS (w3.alloc o) (w3.alloc o).heap.size Y1 Y2 Y3 X := fun o => hY.out.boxed (Nat.le_refl _) o
      have hXb : ∀ o, NetS (w3.alloc o) (w3.alloc o).heap.size X1 X2 X3 X := fun o => hX3.out.boxed (Nat.le_refl _) o
      replace hYb := hide hYb
      replace hXb := hide hXb
      go_wp2_with fail
      refine (same_any X X _ _ _ _ _ _ _ _ _ _ _ _ _ (hXb.out _) (hYb.out _)).mono ?_
      rintro e w4 ⟨rfl, hb4⟩
      have hz4 := hb4.size
      simp only [World.size_alloc] at hz4
      have hb34 : Below w3.heap.size w3 w4 := ((Below.refl _ _).alloc (Nat.le_refl _) _).trans (hb4.mono (by simp))
      have hS4 := (hS3.out.below hb34).more (show w3.heap.size ≤ w4.heap.size by omega)
      have hX4 := hide ((hX3.out.below hb34).more (show w3.heap.size ≤ w4.heap.size by omega))
      have hbx4 := hbx3.out.below hb34 q3
      have hxb4 := hxb.out.below hb34 q3b
      have hw4 := hw3.out.trans (hb34.mono (by omega))
      have hm4 := (hb34.cell (p := ⟨0, 0, none⟩) (by show 0 < _; omega)).trans hm3.out
      have hcX4 := hxb4.cell
      have q4 : bX < w4.heap.size := by omega
      have q4b : w3.heap.size < w4.heap.size := by omega
      have q4c : w.heap.size < w4.heap.size := by omega
      replace hS4 := hide hS4
      replace hw4 := hide hw4
      replace hm4 := hide hm4
      replace hbx4 := hide hbx4
      clear hb4 hb34 hS3 hX3 hbx3 hxb hxb4 hw3 hm3 hcx3 hcX3 hYb hXb hY
      have hX4' : NetS w4 w4.heap.size X1 X2 X3 X := hX4.out
      replace hX4' := hide hX4'
      clear hX4
      generalize w3.heap.size = b3 at hz3 q3 q3b hz4 q4b ⊢
      rcases h02 with rfl | rfl
      case' inl =>
        have hmt := hmX.out rfl
        go_wp2_with fail
        refine (may13_any X _ _ _ _ _ _ _ hX4'.out (by omega)).mono ?_
        rintro e w5 ⟨rfl, hb5⟩
        have hz5 := hb5.size
        have hS5 := hide ((hS4.out.below hb5).more hz5)
        have hbx5 := hide (hbx4.out.below hb5 q4c)
        have hw5 := hide (hw4.out.trans (hb5.mono (by omega)))
        have hm5 := hide ((hb5.cell (p := ⟨0, 0, none⟩) (by show 0 < _; omega)).trans hm4.out)
        clear hb5
      case' inr =>
        obtain ⟨w5, rfl⟩ : ∃ w5 : World, w5 = w4 := ⟨_, rfl⟩
        have hz5 : w5.heap.size ≤ w5.heap.size := Nat.le_refl _
        have hS5 := hS4
        have hbx5 := hbx4
        have hw5 := hw4
        have hm5 := hm4
      all_goals
        have hcx5 := hbx5.out.cell
        clear hS4 hbx4 hw4 hm4 hcX4 hX4'
        go_wp2_with fail
        refine (dnet_any n [] _ _ _ none _ _ _ 0 m0 _ hS5.out Sl.nil_ (by omega) (Nat.le_refl _) hm5.out).mono ?_
        rintro e w6 ⟨Z1, Z2, Z3, z1, z2, z3, rfl, hZ, hb6⟩
        have hz6 := hb6.size
        have hS6 := hide ((hS5.out.below hb6).more hz6)
        have hbx6 := (hbx5.out.below hb6 (by omega))
        have hw6 := hide (hw5.out.trans (hb6.mono (by omega)))
        have hm6 := hide ((hb6.cell (p := ⟨0, 0, none⟩) (by show 0 < _; omega)).trans hm5.out)
        have hdn := hide (fun h0 => down_nil (n := n) h0)
        generalize downNet n [] = ZE at hZ hdn ⊢
        obtain ⟨Zn, G⟩ := ZE
        dsimp only at hZ hdn ⊢
        have hcx6 := hbx6.cell
        have q6 : w.heap.size < w6.heap.size := by omega
        replace hbx6 := hide hbx6
        replace hZ := hide hZ
        clear hb6 hS5 hbx5 hw5 hm5 hcx5
        have hSa : ∀ o, NetS (w6.alloc o) (w6.alloc o).heap.size A1 A2 A3 n := fun o => hS6.out.boxed (Nat.le_refl _) o
        replace hSa := hide hSa
        go_wp2_with fail
        refine (may13_any n _ _ _ _ _ _ _ (hSa.out _) (by omega)).mono ?_
        rintro e w7 ⟨rfl, hb7⟩
        have hz7 := hb7.size
        simp only [World.size_alloc] at hz7
        have hb67 : Below w6.heap.size w6 w7 := ((Below.refl _ _).alloc (Nat.le_refl _) _).trans (hb7.mono (by simp))
        have hzb : Bk w7 w6.heap.size 26 #[.slice Z1 Zn.sw.length z1, .slice Z2 Zn.ports.length z2, .slice Z3 Zn.links.length z3] := (Bk.new w6 _ _).below hb7 (by simp)
        have hcx7 := (hbx6.out.below hb67 q6).cell
        have hcz7 := hzb.cell
        have hS7 := hide ((hS6.out.below hb67).more (show w6.heap.size ≤ w7.heap.size by omega))
        have hZ7 := hide ((hZ.out.below hb67).more (show w6.heap.size ≤ w7.heap.size by omega))
        have hw7 := hide (hw6.out.trans (hb67.mono (by omega)))
        have hm7 := hide ((hb67.cell (p := ⟨0, 0, none⟩) (by show 0 < _; omega)).trans hm6.out)
        have q7 : w.heap.size < w7.heap.size := by omega
        have q7b : w6.heap.size < w7.heap.size := by omega
        clear hb7 hb67 hzb hbx6 hZ hS6 hw6 hm6 hcx6 hSa
        generalize w6.heap.size = b6 at hcz7 q7b hz7 ⊢
        clear hz7 hz6 q6
        cases hmn : mayB n
        case' true =>
          have hd := hdn.out hmn
          injection hd with hd1 hd2
          subst hd1 hd2
          have hsn := same_self Zn
          go_wp2_with fail
          refine (same_any Zn Zn _ _ _ _ _ _ _ _ _ _ _ _ _ hZ7.out hS7.out).mono ?_
          rintro e w8 ⟨rfl, hb8⟩
          have hw8 := hide (hw7.out.trans (hb8.mono (by omega)))
          have hm8 := hide ((hb8.cell (p := ⟨0, 0, none⟩) (by show 0 < _; omega)).trans hm7.out)
          have hz8 : w.heap.size ≤ w8.heap.size := by have := hb8.size; omega
          clear hb8
        case' false =>
          obtain ⟨w8, rfl⟩ : ∃ w8 : World, w8 = w7 := ⟨_, rfl⟩
          have hw8 := hw7
          have hm8 := hm7
          have hz8 : w.heap.size ≤ w8.heap.size := by omega
        all_goals
          clear hw7 hm7 hS7 hZ7 hcx7 hcz7 hdn
          have hsl := hide (sets_len many k)
          have hss2 := hide (sets_same many k)
          go_wp2_with fail
          refine (sets10_any many k _ (by rw [hss2.out]; have := hsl.out; omega)).mono ?_
          rw [hss2.out]
          rintro e w9 ⟨va, rfl, hRa, hb9⟩
          have hb9s := hb9.size
          have hm9 := hide ((hb9.cell (p := ⟨0, 0, none⟩) (by show 0 < _; omega)).trans hm8.out)
          have hw9 := hide (hw8.out.trans (hb9.mono hz8))
          clear hb9 hm8 hw8
          go_wp2_with fail
          refine (rsets_any many k _).mono ?_
          rintro e w10 ⟨vb, rfl, hRb, hb10⟩
          have hb10s := hb10.size
          have hm10 := hide ((hb10.cell (p := ⟨0, 0, none⟩) (by show 0 < _; omega)).trans hm9.out)
          have hw10 := hide (hw9.out.trans (hb10.mono (by omega)))
          obtain ⟨VA, ca, rfl, hSa⟩ := (hRa.below hb10 (Nat.le_refl _)).sl
          obtain ⟨VB, cb, rfl, hSb⟩ := hRb.sl
          clear hRa hRb hb10 hm9 hw9
          have hsl' := hsl.out
          clear hss2 hsl
          generalize refSets many k = S at hSa hSb hsl' ⊢
          replace hSa := hide hSa
          replace hSb := hide hSb
          have hne : ((S.length : Int) != S.length) = false := by simp
          go_wp2_with fail
          go_loopw [86] (fun i wr => ∃ j : Nat, j ≤ S.length ∧ i = .int .i64 j ∧ ∃ m, wr = w10.drewN m) (fun i _ => S.length - (intOf i).toNat)
          case atStart => exact ⟨0, Nat.zero_le _, rfl, 0, rfl⟩
          case round =>
            obtain ⟨j, hj, rfl, m, rfl⟩ := hrel
            by_cases hlt : j < S.length
            · obtain ⟨b1, o1, P1, p1, rfl, hx1, hc1, hs1⟩ := hSa.out.ints hlt
              obtain ⟨b2, o2, P2, p2, rfl, hx2, hc2, hs2⟩ := hSb.out.ints hlt
              have hlti : (j : Int) < (S.length : Int) := by omega
              have hdec := hide (show decide (S[j] = S[j]) = true from by simp)
              have hcc : ∀ m', Calls Try.prog 12 #[.slice P1 S[j].length p1, .slice P2 S[j].length p2] (w10.drewN m') fun e w' => e = .returned (.bool true) ∧ ∃ q, w' = (w10.drewN m').drewN q := fun m' =>
                (ints_any P1 P2 p1 p2 S[j] S[j] (w10.drewN m') (hs1.drewN sta_int m') (hs2.drewN sta_int m')).mono fun e w' ⟨he, hq⟩ => ⟨by rw [he, hdec.out], hq⟩
              replace hcc := hide hcc
              go_wp2_with fail
              go_quiet ((go_at_call 12; exact quiet_add (hcc.out _)))
              go_wp2
              go_roundw
              case rel => exact ⟨j + 1, by omega, by go_num, _, rfl⟩
              case measure => simp [intOf]; omega
            · go_wp2_with fail
              refine (hknown.out (w10.drewN m) m0 hm10.out).mono ?_
              rintro e w11 ⟨rfl, hb11⟩
              replace hb11 := hide hb11
              go_wp2
              go_ret
              exact ⟨rfl, hw10.out.trans ((below_drewN (Below.refl _ _) m).trans (hb11.out.mono (by show w.heap.size ≤ w10.heap.size; omega)))⟩
end Go.Proofs.Ytjijggighppjbaa

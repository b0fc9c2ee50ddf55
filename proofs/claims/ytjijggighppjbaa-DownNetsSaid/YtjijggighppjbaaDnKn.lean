import Derived.Test.YtjijggighppjbaaDnL
namespace Go.Proofs.Ytjijggighppjbaa
open Go.RowKit
def kA : ByteArray := ⟨#[97]⟩
def kB : ByteArray := ⟨#[98]⟩
def kn : Net := ⟨[kA, kB], [[1, 2, 3], [1, 2]], [((0, 2), (1, 1)), ((0, 3), (1, 2))]⟩
def kn2 : Net := ⟨[kA, kB], [[1, 3], [2]], [((0, 3), (1, 2))]⟩
theorem kn_ok : okNet kn [0] = true := by decide +kernel
theorem kn_down : downNet kn [0] = (kn2, 0) := by
  unfold downNet
  rw [if_pos kn_ok]
  have h1 : (outNet2 kn [0]).ports = kn2.ports := by decide +kernel
  have h2 : (outNet2 kn [0]).links = kn2.links := by decide +kernel
  have h0 : (outNet2 kn [0]).sw = kn2.sw := rfl
  generalize outNet2 kn [0] = X at h0 h1 h2
  obtain ⟨a, b, c⟩ := X
  simp only at h0 h1 h2
  subst h0 h1 h2
  rfl
def kWant : List (List Int) := [[], [0], [1], [2], [0, 1], [0, 2], [1, 2]]
theorem kn_sets : dnSets 3 2 = kWant := by decide +kernel
theorem Sl.ofBk1 {α : Type} {R : CR α} {w : World} {B g : Nat} {t : TypeId} (f : α → Value) (xs : List α) (hb : Bk w g t (xs.map f).toArray) (hg : g < B) (hl : xs.length ≤ maxLen) (hr : ∀ x ∈ xs, R w B [f x] x) : Sl 1 R w B (some ⟨g, 0, none⟩) xs := by
  refine ⟨hl, fun i x hx => ⟨g, 0, [f x], rfl, hg, rfl, fun j u hu => ?_, hr x (List.mem_of_getElem? hx)⟩⟩
  cases j with
  | succ j => simp at hu
  | zero =>
    simp at hu; subst hu
    rw [hb.cell]
    simp [hx]
theorem Sl.ofBk4 {w : World} {B g : Nat} {t : TypeId} (xs : List Lnk) (hb : Bk w g t (linkCells xs).toArray) (hg : g < B) (hl : xs.length ≤ maxLen) : Sl 4 rLink w B (some ⟨g, 0, none⟩) xs := by
  refine ⟨hl, fun i x hx => ⟨g, 0, _, rfl, hg, rfl, fun j u hu => ?_, rfl⟩⟩
  rw [hb.cell]
  have := flatMap_get (f := fun x : Lnk => [Value.int .i64 x.1.1, .int .i64 x.1.2, .int .i64 x.2.1, .int .i64 x.2.2]) (k := 4) (fun _ => rfl) xs i j x u hx hu
  simpa [linkCells] using this
theorem slInts {w : World} {B g : Nat} {t : TypeId} (xs : List Int) (hb : Bk w g t (xs.map (Value.int .i64)).toArray) (hg : g < B) (hl : xs.length ≤ maxLen) : Sl 1 rInt w B (some ⟨g, 0, none⟩) xs := Sl.ofBk1 _ xs hb hg hl fun _ _ => rfl
theorem slLink1 {w : World} {B g : Nat} {t : TypeId} (hb : Bk w g t (linkCells kn.links).toArray) (hg : g < B) : Sl 4 rLink w B (some ⟨g, 4, none⟩) kn2.links := by
  refine ⟨by decide, fun i x hx => ⟨g, 4, [.int .i64 0, .int .i64 3, .int .i64 1, .int .i64 2], rfl, hg, rfl, fun j u hu => ?_, ?_⟩⟩
  · have hi : i = 0 := by
      have := (List.getElem?_eq_some_iff.1 hx).1
      simp [kn2] at this; exact this
    subst hi
    rw [hb.cell]
    rcases (show j = 0 ∨ j = 1 ∨ j = 2 ∨ j = 3 by have := (List.getElem?_eq_some_iff.1 hu).1; simp at this; omega) with rfl | rfl | rfl | rfl <;> exact hu
  · have hi : i = 0 := by
      have := (List.getElem?_eq_some_iff.1 hx).1
      simp [kn2] at this; exact this
    subst hi
    simp [kn2] at hx
    subst hx
    rfl
def rowsOk (w : World) (B : Nat) : List (List Int) → List Value → Prop
  | [], [] => True
  | x :: xs, v :: vs => (∃ A c, v = .slice A x.length c ∧ Sl 1 rInt w B A x) ∧ rowsOk w B xs vs
  | _, _ => False
theorem rowsOk.get {w : World} {B : Nat} : ∀ {xs : List (List Int)} {vs : List Value}, rowsOk w B xs vs → ∀ (i : Nat) (x : List Int), xs[i]? = some x → ∃ A c, vs[i]? = some (Value.slice A x.length c) ∧ Sl 1 rInt w B A x
  | [], [], _, i, x, h => by simp at h
  | y :: xs, v :: vs, h, 0, x, hx => by
    simp at hx; subst hx
    obtain ⟨⟨A, c, rfl, hs⟩, _⟩ := h
    exact ⟨A, c, rfl, hs⟩
  | y :: xs, v :: vs, h, i + 1, x, hx => h.2.get i x (by simpa using hx)
  | [], _ :: _, h, _, _, _ => h.elim
  | _ :: _, [], h, _, _, _ => h.elim
theorem slRows {w : World} {B g : Nat} {t : TypeId} {xs : List (List Int)} {vs : List Value} (hb : Bk w g t vs.toArray) (hg : g < B) (hl : xs.length ≤ maxLen) (h : rowsOk w B xs vs) : Sl 1 (rSl 1 rInt) w B (some ⟨g, 0, none⟩) xs := by
  refine ⟨hl, fun i x hx => ?_⟩
  obtain ⟨A, c, hv, hs⟩ := h.get i x hx
  refine ⟨g, 0, [.slice A x.length c], rfl, hg, rfl, fun j u hu => ?_, A, c, rfl, hs⟩
  cases j with
  | succ j => simp at hu
  | zero =>
    simp at hu; subst hu
    rw [hb.cell]
    simpa using hv
set_option maxRecDepth 100000 in
set_option maxHeartbeats 4000000 in
theorem known_any (w : World) (m0 : Int) (hm0 : w.cell? ⟨0, 0, none⟩ = some (.int .i64 m0)) : Calls Try.prog 5 #[] w fun e w' => e = .returned (.bool true) ∧ Below w.heap.size w w' := by
  have h00 : 0 < w.heap.size := World.block_lt_of_cell? w _ hm0
  replace hm0 := hide hm0
  have hz0 : ∃ z, z = w.heap.size := ⟨_, rfl⟩
  go_enter Try.func5, Try.ntmps5
  go_wp2_with fail
  refine (dnet_any kn [0] _ _ _ _ _ _ _ _ m0 _ ⟨?_, ?_, ?_⟩ ?_ ?_ ?_ ?_).mono ?_
  · refine Sl.ofBk1 Value.string [kA, kB] (t := 9) ?_ (by simp <;> omega) (by decide) (fun x hx => ⟨rfl, by simp only [List.mem_cons, List.not_mem_nil, or_false] at hx; rcases hx with rfl | rfl <;> decide⟩)
    repeat (first | exact Bk.newAt (by simp) | refine Bk.alloc ?_ _)
  · refine slRows (xs := kn.ports) (t := 27) (vs := [.slice (some ⟨w.heap.size + 1, 0, none⟩) 3 3, .slice (some ⟨w.heap.size + 1 + 1, 0, none⟩) 2 2]) ?_ (by simp <;> omega) (by decide) ⟨⟨_, _, rfl, slInts [1, 2, 3] (t := 3) ?_ (by simp <;> omega) (by decide)⟩, ⟨_, _, rfl, slInts [1, 2] (t := 3) ?_ (by simp <;> omega) (by decide)⟩, trivial⟩
    all_goals repeat (first | exact Bk.newAt (by simp) | refine Bk.alloc ?_ _)
  · refine Sl.ofBk4 kn.links (t := 40) ?_ (by simp <;> omega) (by decide)
    repeat (first | exact Bk.newAt (by simp) | refine Bk.alloc ?_ _)
  · refine slInts [0] (t := 3) ?_ (by simp <;> omega) (by decide)
    repeat (first | exact Bk.newAt (by simp) | refine Bk.alloc ?_ _)
  · decide
  · decide
  · refine (Below.cell (p := ⟨0, 0, none⟩) (B := w.heap.size) ?_ h00).trans hm0.out
    repeat (first | exact Below.refl _ _ | refine Below.alloc ?_ (by simp <;> omega) _)
  · rw [kn_down]
    rintro e w1 ⟨X1, X2, X3, x1, x2, x3, rfl, hX, hb1⟩
    have hz1 := hb1.size
    simp only [World.size_alloc] at hz1
    have k4 : Bk w1 (w.heap.size + 1 + 1 + 1 + 1) 40 (linkCells kn.links).toArray := Bk.below (by repeat (first | exact Bk.newAt (by simp) | refine Bk.alloc ?_ _)) hb1 (by simp <;> omega)
    have k5 : Bk w1 (w.heap.size + 1 + 1 + 1 + 1 + 1) 26 #[.slice (some ⟨w.heap.size, 0, none⟩) 2 2, .slice (some ⟨w.heap.size + 1 + 1 + 1, 0, none⟩) 2 2, .slice (some ⟨w.heap.size + 1 + 1 + 1 + 1, 0, none⟩) 2 2] := Bk.below (by repeat (first | exact Bk.newAt (by simp) | refine Bk.alloc ?_ _)) hb1 (by simp <;> omega)
    have hw1 : Below w.heap.size w w1 := Below.trans (by repeat (first | exact Below.refl _ _ | refine Below.alloc ?_ (by simp <;> omega) _)) (hb1.mono (by simp <;> omega))
    clear hb1
    dsimp only at hX ⊢
    generalize hb5 : w.heap.size + 1 + 1 + 1 + 1 + 1 = b5 at k5 ⊢
    generalize hb4 : w.heap.size + 1 + 1 + 1 + 1 = b4 at k4 k5 hb5 ⊢
    have q5 : b5 < w1.heap.size := by omega
    have q4 : b4 < w1.heap.size := by omega
    have qw : w.heap.size ≤ b4 := by omega
    have q45 : b4 < b5 := by omega
    clear hb5 hb4 hz1
    replace hw1 := hide hw1
    have hm1 := hide ((hw1.out.cell (p := ⟨0, 0, none⟩) h00).trans hm0.out)
    replace k4 := hide k4
    replace k5 := hide k5
    replace hX := hide hX
    have hx5 := k5.out.cell
    go_wp2_with fail
    -- Sets(3, 2)
    have hsets := sets10_any 3 2 (w1.alloc (.cells #[.slice X1 kn2.sw.length x1, .slice X2 kn2.ports.length x2, .slice X3 kn2.links.length x3] 26)) (by rw [kn_sets]; decide)
    rw [kn_sets] at hsets
    refine hsets.mono ?_
    rintro e w2 ⟨va, rfl, hRa, hb2⟩
    have hz2 := hb2.size
    simp only [World.size_alloc] at hz2
    have km : Bk w2 w1.heap.size 26 #[.slice X1 kn2.sw.length x1, .slice X2 kn2.ports.length x2, .slice X3 kn2.links.length x3] := (Bk.new w1 _ _).below hb2 (by simp)
    have hb12 : Below w1.heap.size w1 w2 := ((Below.refl _ _).alloc (Nat.le_refl _) _).trans (hb2.mono (by simp))
    have k4' := hide (k4.out.below hb12 q4)
    have k5' := hide (k5.out.below hb12 q5)
    have hX2 := hide ((hX.out.below hb12).more (show w1.heap.size ≤ w2.heap.size by omega))
    have hw2 := hide (hw1.out.trans (hb12.mono (by omega)))
    have hm2 := hide ((hb12.cell (p := ⟨0, 0, none⟩) (by show 0 < _; omega)).trans hm1.out)
    obtain ⟨VA, ca, rfl, hSa⟩ := hRa.sl
    clear hb2 hb12 k4 k5 hX hw1 hm1 hx5 hRa
    generalize hbm : w1.heap.size = bm at km hz2 q4 q5 ⊢
    clear hbm
    replace km := hide km
    replace hSa := hide hSa
    go_wp2_with fail
    refine wp_gen (X := fun W => Below w2.heap.size w2 W ∧ Sl 1 (rSl 1 rInt) W W.heap.size (some ⟨w2.heap.size + 1 + 1 + 1 + 1 + 1 + 1, 0, none⟩) kWant) ⟨?_, ?_⟩ ?_
    · repeat (first | exact Below.refl _ _ | refine Below.alloc ?_ (by simp <;> omega) _)
    · refine slRows (t := 27) (vs := [.slice none 0 0, .slice (some ⟨w2.heap.size, 0, none⟩) 1 1, .slice (some ⟨w2.heap.size + 1, 0, none⟩) 1 1, .slice (some ⟨w2.heap.size + 1 + 1, 0, none⟩) 1 1, .slice (some ⟨w2.heap.size + 1 + 1 + 1, 0, none⟩) 2 2, .slice (some ⟨w2.heap.size + 1 + 1 + 1 + 1, 0, none⟩) 2 2, .slice (some ⟨w2.heap.size + 1 + 1 + 1 + 1 + 1, 0, none⟩) 2 2]) ?_ (by simp <;> omega) (by decide)
        ⟨⟨_, _, rfl, Sl.nil_⟩, ⟨_, _, rfl, slInts [0] (t := 3) ?_ (by simp <;> omega) (by decide)⟩, ⟨_, _, rfl, slInts [1] (t := 3) ?_ (by simp <;> omega) (by decide)⟩, ⟨_, _, rfl, slInts [2] (t := 3) ?_ (by simp <;> omega) (by decide)⟩, ⟨_, _, rfl, slInts [0, 1] (t := 3) ?_ (by simp <;> omega) (by decide)⟩, ⟨_, _, rfl, slInts [0, 2] (t := 3) ?_ (by simp <;> omega) (by decide)⟩, ⟨_, _, rfl, slInts [1, 2] (t := 3) ?_ (by simp <;> omega) (by decide)⟩, trivial⟩
      all_goals repeat (first | exact Bk.newAt (by simp) | refine Bk.alloc ?_ _)
    rintro w3 ⟨hb3, hSb⟩
    have hz3 := hb3.size
    have k4 := hide (k4'.out.below hb3 (by omega))
    have k5 := hide (k5'.out.below hb3 (by omega))
    have km3 := hide (km.out.below hb3 (by omega))
    have hX3 := hide ((hX2.out.below hb3).more hz3)
    have hw3 := hide (hw2.out.trans (hb3.mono (by omega)))
    have hSa3 := hide ((hSa.out.below (sta_sl sta_int) hb3).more (sta_sl sta_int) hz3)
    clear hb3 k4' k5' km hX2 hw2 hm2 hSa hsets
    replace hSb := hide hSb
    have hk7 : kWant.length = 7 := rfl
    generalize hKL : kWant = S at hSa3 hSb hk7 ⊢
    clear hKL
    have hS7 : S.length ≤ 7 := by omega
    have hS7' : 7 ≤ S.length := by omega
    clear hk7
    go_loopw [40] (fun i wr => ∃ j : Nat, j ≤ S.length ∧ i = .int .i64 j ∧ ∃ m, wr = w3.drewN m) (fun i _ => S.length - (intOf i).toNat)
    case atStart => exact ⟨0, Nat.zero_le _, rfl, 0, rfl⟩
    case round =>
      obtain ⟨j, hj, rfl, m, rfl⟩ := hrel
      by_cases hlt : j < S.length
      · obtain ⟨b1, o1, P1, p1, rfl, hx1, hc1, hs1⟩ := hSa3.out.ints hlt
        obtain ⟨b2, o2, P2, p2, e2, hx2, hc2, hs2⟩ := hSb.out.ints hlt
        injection e2 with e2
        injection e2 with e2 e3
        subst e2 e3
        have hlti : (j : Int) < (S.length : Int) := by omega
        have hlt7 : (j : Int) < 7 := by omega
        have hlt7' : j < 7 := by omega
        simp only [Nat.zero_add] at hc2
        have hdec := hide (show decide (S[j] = S[j]) = true from by simp)
        have hcc : ∀ m', Calls Try.prog 12 #[.slice P1 S[j].length p1, .slice P2 S[j].length p2] (w3.drewN m') fun e w' => e = .returned (.bool true) ∧ ∃ q, w' = (w3.drewN m').drewN q := fun m' =>
          (ints_any P1 P2 p1 p2 S[j] S[j] (w3.drewN m') (hs1.drewN sta_int m') (hs2.drewN sta_int m')).mono fun e w' ⟨he, hq⟩ => ⟨by rw [he, hdec.out], hq⟩
        replace hcc := hide hcc
        go_wp2_with fail
        go_quiet ((go_at_call 12; exact quiet_add (hcc.out _)))
        go_wp2
        go_roundw
        case rel => exact ⟨j + 1, by omega, by go_num, _, rfl⟩
        case measure => simp [intOf]; omega
      · go_wp2_with fail
        have c0 := km3.out.cell 0
        have c1 := km3.out.cell 1
        have c2 := km3.out.cell 2
        have c5 := k5.out.cell 2
        simp only [List.getElem?_toArray, List.getElem?_cons_succ, List.getElem?_cons_zero] at c0 c1 c2 c5
        have hss := same_self kn2
        have z5 : b5 < w3.heap.size := by omega
        have zm : bm < w3.heap.size := by omega
        have hmB : Hid (Below w3.heap.size w3 (w3.drewN m)) := hide (below_drewN (Below.refl _ _) m)
        replace c0 : (w3.drewN m).cell? _ = _ := c0
        replace c1 : (w3.drewN m).cell? _ = _ := c1
        replace c2 : (w3.drewN m).cell? _ = _ := c2
        replace c5 : (w3.drewN m).cell? _ = _ := c5
        replace z5 : b5 < (w3.drewN m).heap.size := z5
        replace zm : bm < (w3.drewN m).heap.size := zm
        have hwD : Hid (Below w.heap.size w (w3.drewN m)) := hide (below_drewN hw3.out m)
        replace k4 : Hid (Bk (w3.drewN m) b4 40 (linkCells kn.links).toArray) := k4
        replace hX3 : Hid (NetS (w3.drewN m) (w3.drewN m).heap.size X1 X2 X3 kn2) := hide (hX3.out.below hmB.out)
        have z4 : b4 < (w3.drewN m).heap.size := by omega
        have zw : w.heap.size ≤ (w3.drewN m).heap.size := by omega
        clear hmB km3 k5 hSa3 hSb hw3 hz3 hz2
        generalize w3.drewN m = W at c0 c1 c2 c5 z5 zm hwD k4 hX3 z4 zw ⊢
        go_region_held3 (fun w' => w'.cell? ⟨bm, 0, none⟩ = some (.slice X1 kn2.sw.length x1) ∧ w'.cell? ⟨bm, 1, none⟩ = some (.slice X2 kn2.ports.length x2) ∧ w'.cell? ⟨bm, 2, none⟩ = some (.slice X3 kn2.links.length x3) ∧ w'.cell? ⟨b5, 2, none⟩ = some (.slice (some ⟨b4, 0, none⟩) 2 2)) (first | (go_keep; done) | ((try go_split_ands); refine ⟨?_, ?_, ?_, ?_⟩ <;> (repeat (first | assumption | (refine (cell_alloc_drew (by simp <;> omega)).trans ?_) | (refine (World.cell?_alloc_past _ _ _ (by simp <;> omega)).trans ?_)))))
          ((go_at_call 8
            refine (same_any kn2 kn2 X1 X2 X3 _ _ _ x1 x2 x3 _ _ _ _ ?_ ?_).mono ?_
            · refine (hX3.out.below (B := W.heap.size) ?_).more (by simp <;> omega)
              repeat (first | (with_reducible exact Below.refl _ _) | (with_reducible refine Below.drew ?_) | (with_reducible refine Below.alloc ?_ ?_ _))
              all_goals (simp <;> omega)
            · refine ⟨?_, ?_, ?_⟩
              · refine Sl.ofBk1 Value.string [kA, kB] (t := 9) ?_ (by simp <;> omega) (by decide) (fun x hx => ⟨rfl, by simp only [List.mem_cons, List.not_mem_nil, or_false] at hx; rcases hx with rfl | rfl <;> decide⟩)
                repeat (first | (with_reducible refine Bk.drew ?_) | (refine Bk.newAt ?_) | (with_reducible refine Bk.alloc ?_ _))
                all_goals (simp <;> omega)
              · apply slRows (xs := kn2.ports) (t := 27)
                case hb =>
                  repeat (first | (with_reducible refine Bk.drew ?_) | (refine Bk.newAt ?_) | (with_reducible refine Bk.alloc ?_ _))
                  all_goals (simp <;> omega)
                case hg => simp <;> omega
                case hl => decide
                case h =>
                  refine ⟨⟨_, _, rfl, slInts [1, 3] (t := 3) ?_ (by simp <;> omega) (by decide)⟩, ⟨_, _, rfl, slInts [2] (t := 3) ?_ (by simp <;> omega) (by decide)⟩, trivial⟩
                  · repeat (first | (with_reducible refine Bk.drew ?_) | (refine Bk.newAt ?_) | (with_reducible refine Bk.alloc ?_ _))
                    all_goals (simp <;> omega)
                  · repeat (first | (with_reducible refine Bk.drew ?_) | (refine Bk.newAt ?_) | (with_reducible refine Bk.alloc ?_ _))
                    all_goals (simp <;> omega)
              · refine slLink1 (t := 40) ?_ (by simp <;> omega)
                repeat (first | (with_reducible refine Bk.drew ?_) | (with_reducible exact k4.out) | (with_reducible refine Bk.alloc ?_ _))
            rw [hss]
            rintro e wf ⟨rfl, hbf⟩
            have hbW : Below W.heap.size W wf := by
              refine Below.trans (B := W.heap.size) ?_ (hbf.mono (by simp <;> omega))
              repeat (first | (with_reducible exact Below.refl _ _) | (with_reducible refine Below.drew ?_) | (with_reducible refine Below.alloc ?_ ?_ _))
              all_goals (simp <;> omega)
            have hbF := hwD.out.trans (hbW.mono zw)
            have s0 := (hbW.cell (p := ⟨bm, 0, none⟩) zm).trans c0
            have s1 := (hbW.cell (p := ⟨bm, 1, none⟩) zm).trans c1
            have s2 := (hbW.cell (p := ⟨bm, 2, none⟩) zm).trans c2
            have s5 := (hbW.cell (p := ⟨b5, 2, none⟩) z5).trans c5
            clear hbW hbf
            replace hbF := hide hbF))
        all_goals
          go_wp2
          go_ret
          exact ⟨rfl, hbF.out⟩
end Go.Proofs.Ytjijggighppjbaa

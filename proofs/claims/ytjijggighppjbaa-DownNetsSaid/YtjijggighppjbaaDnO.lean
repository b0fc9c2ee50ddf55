import Derived.Test.YtjijggighppjbaaDnN
import Derived.Deep.RegionHeld3
import Derived.Deep.RegionLaw
import Derived.BigRegion
import Derived.Deep.DeepCutAuto
namespace Go.Proofs.Ytjijggighppjbaa
open Go.RowKit
theorem Sl.take {α : Type} {R : CR α} {k : Nat} {w : World} {B : Nat} {A : Option Addr} {xs : List α} (h : Sl k R w B A xs) (n : Nat) : Sl k R w B A (xs.take n) :=
  ⟨Nat.le_trans (List.length_take_le' n xs) h.1, fun i x hx => h.2 i x (by rw [List.getElem?_take] at hx; split at hx; exact hx; cases hx)⟩
theorem has_take (A : Option Addr) (cap : Nat) (xs : List Int) (k : Nat) (hk : k ≤ xs.length) (n : Int) (w : World) (h : Sl 1 rInt w w.heap.size A xs) :
    Calls Try.prog 23 #[.slice A k cap, .int .i64 n] w fun e w' => e = .returned (.bool (decide (n ∈ xs.take k))) ∧ w = w' := by
  have := has_any A cap (xs.take k) n w (h.take k)
  rwa [List.length_take, Nat.min_eq_left hk] at this
def NetPost (w : World) (x : Net × Int) (e : Ending) (w' : World) : Prop :=
  ∃ A1 A2 A3 c1 c2 c3, e = .returned (.tuple #[netV x.1 A1 A2 A3 c1 c2 c3, .int .i64 x.2]) ∧ NetS w' w'.heap.size A1 A2 A3 x.1 ∧ Below w.heap.size w w'
theorem netS_empty (w : World) (B : Nat) : NetS w B none none none emptyNet := ⟨Sl.nil_, Sl.nil_, Sl.nil_⟩
theorem netPost_no {w w' : World} {n : Net} {l : List Int} (h : okNet n l = false) (hb : Below w.heap.size w w') : NetPost w (refNet n l) (.returned (.tuple #[.agg #[.slice none 0 0, .slice none 0 0, .slice none 0 0], .int .i64 2])) w' := by
  have : refNet n l = (emptyNet, 2) := by simp [refNet, h]
  rw [this]
  exact ⟨none, none, none, 0, 0, 0, rfl, netS_empty _ _, hb⟩
theorem link_info : (Try.prog.info? 40).map (fun i => (i.zero, i.size, i.bytes)) = some (some (.agg #[.int .i64 0, .int .i64 0, .int .i64 0, .int .i64 0]), 4, 32) := by kernel_rfl
theorem str_info : (Try.prog.info? 9).map (fun i => (i.zero, i.size, i.bytes)) = some (some (.string ByteArray.empty), 1, 16) := by kernel_rfl
theorem introw_info : (Try.prog.info? 27).map (fun i => (i.zero, i.size, i.bytes)) = some (some (.slice none 0 0), 1, 24) := by kernel_rfl
theorem int_info : (Try.prog.info? 3).map (fun i => (i.zero, i.size, i.bytes)) = some (some (.int .i64 0), 1, 8) := by kernel_rfl
theorem frozen_alloc {w : World} {o : Obj} {b i : Nat} (h : b < w.heap.size) : (w.alloc o).frozen? ⟨b, i, none⟩ = w.frozen? ⟨b, i, none⟩ := World.frozen?_of_block (a := ⟨b, i, none⟩) (Below.heap_alloc w o b h)
theorem frozen_alloc_drew {w : World} {o : Obj} {b i : Nat} (h : b < w.heap.size) : (w.alloc o).drew.frozen? ⟨b, i, none⟩ = w.frozen? ⟨b, i, none⟩ := frozen_alloc h
theorem cell_alloc_drew {w : World} {o : Obj} {b i : Nat} (h : b < w.heap.size) : (w.alloc o).drew.cell? ⟨b, i, none⟩ = w.cell? ⟨b, i, none⟩ := World.cell?_of_block (a := ⟨b, i, none⟩) (Below.heap_alloc w o b h)
theorem own_one {w : World} {base : Nat} {e : TypeId} {size : Nat} {v : Value} {n : Nat} {xs : List Value} (h : w.ownsRow base e size v n xs) : ∀ u ∈ [v], u.oneCell' = true := by
  intro u hu
  rw [List.mem_singleton] at hu
  subst hu
  rcases h.2 with ⟨rfl, _⟩ | ⟨g, cap, cur, rfl, _⟩ <;> rfl
theorem own_form {w : World} {base : Nat} {e : TypeId} {size : Nat} {v : Value} {n : Nat} {xs : List Value} (h : w.ownsRow base e size v n xs) : ∃ A cap, v = .slice A n cap := by
  rcases h.2 with ⟨rfl, rfl⟩ | ⟨g, cap, cur, rfl, _⟩
  · exact ⟨_, _, rfl⟩
  · exact ⟨_, _, rfl⟩
theorem gg_ne {v : Value} {gg g H : Nat} (hat : v.ownBlock = some gg ∨ gg = H) (ha : v.ownBlock ≠ some g) (hH : g < H) : gg ≠ g := by
  rintro rfl
  rcases hat with h | h
  · exact ha h
  · omega
set_option maxHeartbeats 4000000 in
set_option maxRecDepth 100000 in
theorem rnet_any (n : Net) (l : List Int) (A1 A2 A3 L : Option Addr) (c1 c2 c3 lc : Nat) (w : World) (h : NetS w w.heap.size A1 A2 A3 n) (hl : Sl 1 rInt w w.heap.size L l) (hL : n.links.length ≤ 1000) (hlc : l.length ≤ lc) :
    Calls Try.prog 7 #[netV n A1 A2 A3 c1 c2 c3, .slice L l.length lc] w (NetPost w (refNet n l)) := by
  obtain ⟨i4, hi4, hz40, hz41, hz42⟩ := info_parts link_info
  obtain ⟨is0, his, hzs0, hzs1, hzs2⟩ := info_parts str_info
  obtain ⟨ir, hir, hzr0, hzr1, hzr2⟩ := info_parts introw_info
  obtain ⟨ii, hii, hzi0, hzi1, hzi2⟩ := info_parts int_info
  have h8 : mayB n = true → n.sw.length ≤ 8 := fun hm => by simp only [mayB, Bool.and_eq_true, decide_eq_true_eq] at hm; exact hm.1.1.1
  have l1 := h.1.len
  have l2 := h.2.1.len
  have l3 := h.2.2.len
  have ll := hl.len
  have hnet : ∀ o1 o2 o3 : Obj, NetS (((w.alloc o1).alloc o2).alloc o3) (((w.alloc o1).alloc o2).alloc o3).heap.size A1 A2 A3 n := fun o1 o2 o3 =>
    (((h.alloc (Nat.le_refl _) o1).alloc (by simp) o2).alloc (by simp; omega) o3).more (by simp; omega)
  have hb0 : ∀ o1 o2 o3 : Obj, Below w.heap.size w (((w.alloc o1).alloc o2).alloc o3) := fun o1 o2 o3 => (((Below.refl _ _).alloc (Nat.le_refl _) _).alloc (by simp) _).alloc (by simp; omega) _
  have hres : (Try.results7) = Try.results7 := rfl
  replace h := hide h
  replace hl := hide hl
  go_enter Try.func7, Try.ntmps7
  cases hm : mayB n with
  | false =>
    have hv := hide (show okNet n l = false from by simp [okNet, hm])
    go_wp2_with (go_at_call 9; refine (may13_any n _ _ _ _ _ _ _ (hnet _ _ _) hL).mono ?_; rintro e w1 ⟨rfl, hb1⟩; obtain ⟨hc1, hf1, hz1⟩ := bcell hb1; have hbA := (hb0 _ _ _).trans (hb1.mono (by simp; try omega)); clear hb1; simp at hz1)
    refine bodyPost_ret (v := .tuple #[.agg #[.slice none 0 0, .slice none 0 0, .slice none 0 0], .int .i64 2]) (by simp [results, Try.results7, go_sem, hc1]) rfl (netPost_no hv.out ?_)
    refine ((hbA.setCell ?_ _).setCell ?_ _).setCell ?_ _ <;> simp <;> omega
  | true =>
    go_wp2_with (go_at_call 9; refine (may13_any n _ _ _ _ _ _ _ (hnet _ _ _) hL).mono ?_; rintro e w1 ⟨rfl, hb1⟩)
    clear hnet
    have hbA := (hb0 _ _ _).trans (hb1.mono (by simp; try omega))
    refine wp_gen (X := fun w' => Below w.heap.size w w' ∧ w.heap.size + 3 ≤ w'.heap.size ∧ Bk w' w.heap.size 26 #[.slice A1 n.sw.length c1, .slice A2 n.ports.length c2, .slice A3 n.links.length c3] ∧ Bk w' (w.heap.size + 1) 26 #[.slice none 0 0, .slice none 0 0, .slice none 0 0] ∧ Bk w' (w.heap.size + 2) 26 #[.slice none 0 0, .slice none 0 0, .slice none 0 0])
      ⟨hbA, by have := hb1.size; simp at this; omega, (((Bk.newAt rfl).alloc _).alloc _).below hb1 (by simp; omega), ((Bk.newAt (by simp)).alloc _).below hb1 (by simp), (Bk.newAt (by simp)).below hb1 (by simp)⟩ ?_
    clear hbA hb1 hb0
    rintro w1 ⟨hbw, hz1, kn, kr, ko⟩
    have hcn := kn.cell
    have hcr := kr.cell
    have hfr := kr.frozen
    have hco := ko.cell
    replace kn := hide kn
    replace kr := hide kr
    replace ko := hide ko
    replace hbw := hide hbw
    have hlw := hide ((hl.out.below sta_int hbw.out).more sta_int (show w.heap.size ≤ w1.heap.size by omega))
    have hsz1 : w.heap.size + 1 < w1.heap.size := by omega
    go_loopw [7] (fun i wr => ∃ k : Nat, k ≤ l.length ∧ i = .int .i64 k ∧ Hid (validTo n l k) ∧ ∃ m, wr = w1.drewN m) (fun i _ => l.length - (intOf i).toNat)
    case atStart => exact ⟨0, Nat.zero_le _, rfl, hide (fun i hi => by omega), 0, rfl⟩
    case round =>
      obtain ⟨k, hk, rfl, hok, m, rfl⟩ := hrel
      by_cases hlt : k < l.length
      · obtain ⟨x, o, rfl, hx, hcell⟩ := hlw.out.int hlt
        by_cases p1 : l[k] < 0
        · have hv := hide (okNet_no (n := n) hlt (fun g => by omega))
          go_wp2_with fail
          go_quiet (fail)
          go_wp2
          refine bodyPost_ret (v := .tuple #[.agg #[.slice none 0 0, .slice none 0 0, .slice none 0 0], .int .i64 2]) (by simp [results, Try.results7, go_sem, hcr]) rfl (netPost_no hv.out ?_)
          refine (((below_drewN hbw.out _).setCell ?_ _).setCell ?_ _).setCell ?_ _ <;> simp <;> omega
        · have d1 : decide (l[k] < 0) = false := by simpa using p1
          by_cases p2 : l[k] < (n.links.length : Int)
          · have d2 : decide ((n.links.length : Int) ≤ l[k]) = false := by simpa using p2
            have hSh : ∀ m', Sl 1 rInt (w1.drewN m') (w1.drewN m').heap.size (some ⟨x, o, none⟩) l := fun m' => hlw.out.drewN sta_int m'
            replace hSh := hide hSh
            have hkc : (k : Int) ≤ (lc : Int) := by omega
            have hkc' : k ≤ lc := by omega
            by_cases p3 : l[k] ∈ l.take k
            · have hv := hide (okNet_no (n := n) hlt (fun g => g.2.2 p3))
              have d3 : decide (l[k] ∈ l.take k) = true := by simpa using p3
              clear p3
              go_wp2_with fail
              go_quiet ((go_at_call 23; exact quiet_add_same (has_take _ _ l k hk _ _ (hSh.out _))))
              go_wp2
              refine bodyPost_ret (v := .tuple #[.agg #[.slice none 0 0, .slice none 0 0, .slice none 0 0], .int .i64 2]) (by simp [results, Try.results7, go_sem, hcr]) rfl (netPost_no hv.out ?_)
              refine (((below_drewN hbw.out _).setCell ?_ _).setCell ?_ _).setCell ?_ _ <;> simp <;> omega
            · have hv := hide (validTo_succ hlt hok.out (by omega) p2 p3)
              have d3 : decide (l[k] ∈ l.take k) = false := by simpa using p3
              clear p3
              go_wp2_with fail
              go_quiet ((go_at_call 23; exact quiet_add_same (has_take _ _ l k hk _ _ (hSh.out _))))
              go_wp2
              go_roundw
              case rel => exact ⟨k + 1, by omega, by go_num, hv, _, rfl⟩
              case measure => simp [intOf]; omega
          · have d2 : decide ((n.links.length : Int) ≤ l[k]) = true := by simpa using p2
            have hv := hide (okNet_no (n := n) hlt (fun g => by omega))
            go_wp2_with fail
            go_quiet (fail)
            go_wp2
            refine bodyPost_ret (v := .tuple #[.agg #[.slice none 0 0, .slice none 0 0, .slice none 0 0], .int .i64 2]) (by simp [results, Try.results7, go_sem, hcr]) rfl (netPost_no hv.out ?_)
            refine (((below_drewN hbw.out _).setCell ?_ _).setCell ?_ _).setCell ?_ _ <;> simp <;> omega
      · have hv := hide (show refNet n l = (outNet n l, 0) from by
          have := hok.out; rw [show k = l.length by omega] at this; simp [refNet, okNet, hm, this])
        go_wp2
        replace kn := hide (kn.out.drewN m)
        replace kr := hide (kr.out.drewN m)
        replace ko := hide (ko.out.drewN m)
        replace hbw := hide (below_drewN hbw.out m)
        replace hlw := hide (hlw.out.drewN sta_int m)
        have hz2 : w.heap.size + 3 ≤ (w1.drewN m).heap.size := hz1
        clear hok hlt hk hcn hcr hfr hco hsz1 hz1
        generalize w1.drewN m = w2 at kn kr ko hbw hlw hz2 ⊢
        go_loopw [8] (fun i wr => ∃ k : Nat, k ≤ n.links.length ∧ i = .int .i64 k ∧ Hid (Below (w.heap.size + 2) w2 wr) ∧ w.heap.size + 3 ≤ wr.heap.size ∧ ∃ v2, Hid (Bk wr (w.heap.size + 2) 26 #[.slice none 0 0, .slice none 0 0, v2]) ∧ Hid (wr.ownsRow (w.heap.size + 3) 40 4 v2 (keepL (n.links.take k) l 0).length (linkCells (keepL (n.links.take k) l 0)))) (fun i _ => n.links.length - (intOf i).toNat)
        case atStart => exact ⟨0, Nat.zero_le _, rfl, hide (Below.refl _ _), hz2, _, ko, hide (by simpa [keepL, linkCells] using World.ownsRow_nil _ _ _ _)⟩
        case round =>
          obtain ⟨k, hk, rfl, hbr, hzr, v2, hbo, hown⟩ := hrel
          have hc := bcell' (hbr.out)
          have hcn := kn.out.cell
          have hco := hbo.out.cell
          have hfo := hbo.out.frozen
          by_cases hlt : k < n.links.length
          · have hwr := hide (hbw.out.trans (hbr.out.mono (by omega)))
            have hlr := hide ((hl.out.below sta_int hwr.out).more sta_int (show w.heap.size ≤ wr.heap.size by omega))
            obtain ⟨x, o, hA, hx, x1, x2, x3, x4⟩ := (h.out.below hwr.out).2.2.link hlt
            subst hA
            have hkt := hide (keepL_take (ls := n.links) (l := l) hlt)
            have hlti : (k : Int) < (n.links.length : Int) := by omega
            by_cases hin : (k : Int) ∈ l
            · have hd : decide ((k : Int) ∈ l) = true := by simpa using hin
              have hown' := hide (show wr.ownsRow (w.heap.size + 3) 40 4 v2 (keepL (n.links.take (k + 1)) l 0).length (linkCells (keepL (n.links.take (k + 1)) l 0)) from by rw [hkt.out, if_pos hin, List.append_nil]; exact hown.out)
              clear hin
              go_wp2_with (go_at_call 23; refine (has_any _ _ l _ _ hlr.out).mono ?_; rintro e w' ⟨rfl, rfl⟩)
              go_roundw
              case rel => exact ⟨k + 1, by omega, by go_num, hbr, hzr, v2, hbo, hown'⟩
              case measure => simp [intOf]; omega
            · have hd : decide ((k : Int) ∈ l) = false := by simpa using hin
              have hkk := hide (show keepL (n.links.take (k + 1)) l 0 = keepL (n.links.take k) l 0 ++ [n.links[k]] from by rw [hkt.out, if_neg hin])
              have hlen := hide (show (keepL (n.links.take k) l 0).length ≤ k from by
                unfold keepL; rw [List.length_map]; refine Nat.le_trans (List.length_filter_le _ _) ?_; simp; omega)
              clear hin
              generalize hlk : keepL (n.links.take k) l 0 = lk at hown hkk hlen
              clear hkt
              go_wp2_with (go_at_call 23; refine (has_any _ _ l _ _ hlr.out).mono ?_; rintro e w' ⟨rfl, rfl⟩)
              have hbx : wr.cell? ⟨w.heap.size, 2, none⟩ = some (.slice (some ⟨x, o, none⟩) n.links.length c3) := by rw [hc.1 _ _ (by omega), hcn]; rfl
              have hbv : wr.cell? ⟨w.heap.size + 2, 2, none⟩ = some v2 := by rw [hco]; rfl
              have ag := own_ne hown.out (show w.heap.size < w.heap.size + 3 by omega)
              have ao := own_ne hown.out (show w.heap.size + 2 < w.heap.size + 3 by omega)
              have ax := own_ne hown.out (show x < w.heap.size + 3 by omega)
              have hl3 := hlen.out
              have hbf := hfo 2
              have hzl : w.heap.size + 2 < wr.heap.size := by omega
              clear hc hcn hco hfo
              have hzlx : x < wr.heap.size := by omega
              have hzlw : w.heap.size < wr.heap.size := by omega
              go_region_law (refine step_append_lies _ (by rfl) _ _ _ (by rfl) (w.heap.size + 3) 40 i4 _ 4 32 Try.underlying24 hi4 hz40 hz41 hz42 rfl (by omega) _ lk.length _ (by rfl) ((hown.out.alloc _).drew) ⟨wr.heap.size, 0, none⟩ 1 1 [.int .i64 n.links[k].1.1, .int .i64 n.links[k].1.2, .int .i64 n.links[k].2.1, .int .i64 n.links[k].2.2] (by rfl) (by rfl) (World.news_of_block (cs := #[.int .i64 n.links[k].1.1, .int .i64 n.links[k].1.2, .int .i64 n.links[k].2.1, .int .i64 n.links[k].2.2]) (t := 40) (fr := (0, 0)) (heap_alloc_new wr _)) (by simp [Value.oneCell']) (by omega) (by simp [maxLen]; omega) (by omega) (by simp; omega) (wr.heap.size + 1) (by simp) ?_; intro gg cap w1 hown1 hgrow hat hglt; have hfz : w1.frozen? ⟨w.heap.size + 2, 2, none⟩ = false := (hgrow.frozen_far _ (by simp; omega) (Ne.symm ao)).trans ((frozen_alloc_drew hzl).trans hbf); have hcz : w1.cell? ⟨w.heap.size + 2, 2, none⟩ = some v2 := (hgrow.cell_far _ (by simp; omega) (Ne.symm ao)).trans ((cell_alloc_drew hzl).trans hbv))
              all_goals
                have hne := gg_ne hat ao (by omega)
                have hbr1 := hide ((((hbr.out.alloc (by omega) (.cells #[.int .i64 n.links[k].1.1, .int .i64 n.links[k].1.2, .int .i64 n.links[k].2.1, .int .i64 n.links[k].2.2] 40)).drew).grown hgrow (by simp; omega) (fun g hg => by have := (hown.out.lt g hg).1; omega)).setCell (p := ⟨w.heap.size + 2, 2, none⟩) (by simp) (.slice (some ⟨gg, 0, none⟩) (lk.length + 1) cap))
                have hbo1 := hide ((((hbo.out.alloc (.cells #[.int .i64 n.links[k].1.1, .int .i64 n.links[k].1.2, .int .i64 n.links[k].2.1, .int .i64 n.links[k].2.2] 40)).drew).grown hgrow (Ne.symm ao)).set_ 2 (.slice (some ⟨gg, 0, none⟩) (lk.length + 1) cap))
                have hown2 := hide (show (w1.setCell ⟨w.heap.size + 2, 2, none⟩ (.slice (some ⟨gg, 0, none⟩) (lk.length + 1) cap)).ownsRow (w.heap.size + 3) 40 4 (.slice (some ⟨gg, 0, none⟩) (lk.length + 1) cap) (keepL (n.links.take (k + 1)) l 0).length (linkCells (keepL (n.links.take (k + 1)) l 0)) from by
                  rw [hkk.out]; simpa [linkCells] using own_setCell hown1 (p := ⟨w.heap.size + 2, 2, none⟩) (by simpa [Value.ownBlock] using hne) _)
                have hzz : w.heap.size + 3 ≤ (w1.setCell ⟨w.heap.size + 2, 2, none⟩ (.slice (some ⟨gg, 0, none⟩) (lk.length + 1) cap)).heap.size := by have := hgrow.size; simp [World.setCell] at this ⊢; omega
                clear hown1 hgrow
                go_wp2
                go_roundw
                case rel => exact ⟨k + 1, by omega, by go_num, hbr1, hzz, _, hbo1, hown2⟩
                case measure => simp [intOf]; omega
          · have hk' : k = n.links.length := by omega
            subst hk'
            rw [List.take_length] at hown
            go_wp2
            have kn3 := hide (kn.out.below hbr.out (by omega))
            have kr3 := hide (kr.out.below hbr.out (by omega))
            have hbw3 := hide (hbw.out.trans (hbr.out.mono (by omega)))
            have hcut : (cutNet n l).links = keepL n.links l 0 := rfl
            replace hcut := hide hcut
            have hkl : (keepL n.links l 0).length ≤ 1000 := by
              unfold keepL; rw [List.length_map]; refine Nat.le_trans (List.length_filter_le _ _) ?_; simpa using hL
            have hsw8 := h8 hm
            have hpl : n.ports.length = n.sw.length := by
              have := hm; simp only [mayB, Bool.and_eq_true, decide_eq_true_eq] at this; exact this.1.1.2
            replace hpl := hide hpl
            clear hc kn kr ko hbw hlw hz2 hlt hk hl
            obtain ⟨w3, rfl⟩ : ∃ w3 : World, w3 = wr := ⟨_, rfl⟩
            have hO : OutS w3 (w.heap.size + 3) (w.heap.size + 2) (.slice none 0 0) (.slice none 0 0) v2 (n.sw.take 0) ((List.range 0).map (outPort n l)) (keepL n.links l 0) :=
              ⟨hbo.out, World.ownsRow_nil _ _ _ _, hown.out, [], rfl, World.ownsRow_nil _ _ _ _, fun i v p hv => by simp at hv⟩
            replace hO := hide hO
            clear hbo hown
            go_loopw [9] (fun i wr => ∃ k : Nat, k ≤ n.sw.length ∧ i = .int .i64 k ∧ Hid (Below (w.heap.size + 2) w3 wr) ∧ w.heap.size + 3 ≤ wr.heap.size ∧ ∃ v0 v1, Hid (OutS wr (w.heap.size + 3) (w.heap.size + 2) v0 v1 v2 (n.sw.take k) ((List.range k).map (outPort n l)) (keepL n.links l 0))) (fun i _ => n.sw.length - (intOf i).toNat)
            case atStart => exact ⟨0, Nat.zero_le _, rfl, hide (Below.refl _ _), hzr, _, _, hO⟩
            case round =>
              clear hO hzr hbr
              obtain ⟨k, hk, rfl, hbr, hzr, v0, v1, hO⟩ := hrel
              have hwr := hide (hbw3.out.trans (hbr.out.mono (by omega)))
              have hcn := (kn3.out.below hbr.out (by omega)).cell
              have hco := hO.out.box.cell
              by_cases hlt : k < n.sw.length
              · obtain ⟨x, o, hA, hx, hcell, -⟩ := (h.out.below hwr.out).1.str hlt
                subst hA
                have hlti : (k : Int) < (n.sw.length : Int) := by omega
                have hbx : wr.cell? ⟨w.heap.size, 0, none⟩ = some (.slice (some ⟨x, o, none⟩) n.sw.length c1) := by rw [hcn]; rfl
                have hbv : wr.cell? ⟨w.heap.size + 2, 0, none⟩ = some v0 := by rw [hco]; rfl
                have hbf := hO.out.box.frozen 0
                have ao := own_ne hO.out.own0 (show w.heap.size + 2 < w.heap.size + 3 by omega)
                have hzl : w.heap.size + 2 < wr.heap.size := by omega
                have hzlx : x < wr.heap.size := by omega
                have hzlw : w.heap.size < wr.heap.size := by omega
                have hlen : (n.sw.take k).length = k := by rw [List.length_take]; omega
                have hlen' := hide hlen
                have hown0 := hide hO.out.own0
                rw [hlen] at hown0
                clear hcn hco hlen
                go_wp2_with fail
                go_cut [] (fun wx => ∃ v0', Hid (OutS wx (w.heap.size + 3) (w.heap.size + 2) v0' v1 v2 (n.sw.take k ++ [n.sw[k]]) ((List.range k).map (outPort n l)) (keepL n.links l 0)) ∧ Hid (Below (w.heap.size + 2) w3 wx) ∧ w.heap.size + 3 ≤ wx.heap.size)
                case first =>
                  go_region_law (refine step_append_lies _ (by rfl) _ _ _ (by rfl) (w.heap.size + 3) 9 is0 _ 1 16 Try.underlying22 his hzs0 hzs1 hzs2 rfl (by omega) _ k _ (by rfl) ((hown0.out.alloc _).drew) ⟨wr.heap.size, 0, none⟩ 1 1 [.string n.sw[k]] (by rfl) (by rfl) (World.news_of_block (cs := #[.string n.sw[k]]) (t := 9) (fr := (0, 0)) (heap_alloc_new wr _)) (by simp [Value.oneCell']) (by omega) (by simp [maxLen]; omega) (by omega) (by simp; omega) (wr.heap.size + 1) (by simp) ?_; intro gg cap w1 hown1 hgrow hat hglt; have hfz : w1.frozen? ⟨w.heap.size + 2, 0, none⟩ = false := (hgrow.frozen_far _ (by simp; omega) (Ne.symm ao)).trans ((frozen_alloc_drew hzl).trans hbf); have hcz : w1.cell? ⟨w.heap.size + 2, 0, none⟩ = some v0 := (hgrow.cell_far _ (by simp; omega) (Ne.symm ao)).trans ((cell_alloc_drew hzl).trans hbv))
                  all_goals
                    have hz0 : Below wr.heap.size wr (wr.alloc (.cells #[.string n.sw[k]] 9)).drew := ((Below.refl _ _).alloc (Nat.le_refl _) _).drew
                    have hOA := hide (OutS.step0 hO.out hlen'.out hz0 hgrow hown1)
                    have hbA := hide (((hbr.out.trans (hz0.mono (by omega))).grown hgrow (by simp; omega) (fun g hg => by have := (hO.out.own0.lt g hg).1; omega)).setCell (p := ⟨w.heap.size + 2, 0, none⟩) (by simp) (.slice (some ⟨gg, 0, none⟩) (k + 1) cap))
                    have hzA : w.heap.size + 3 ≤ (w1.setCell ⟨w.heap.size + 2, 0, none⟩ (.slice (some ⟨gg, 0, none⟩) (k + 1) cap)).heap.size := by have := hgrow.size; simp [World.setCell] at this ⊢; omega
                    go_wp2_with fail
                    go_meet
                    exact ⟨_, hOA, hbA, hzA⟩
                case rest =>
                  obtain ⟨v0', hOA, hbA, hzA⟩ := hcut
                  obtain ⟨wA, rfl⟩ : ∃ wA : World, wA = wc := ⟨_, rfl⟩
                  clear hO hbr hzr hwr hcell hbx hbv hbf ao hzl hzlx hzlw hown0
                  go_wp2
                  obtain ⟨y, u, P, pc, hA2, hy, hcell2, hp⟩ := (h.out.below (hbw3.out.trans (hbA.out.mono (by omega)))).2.1.ints (i := k) (by have := hpl.out; omega)
                  subst hA2
                  have hlt2 : k < n.ports.length := by have := hpl.out; omega
                  have hp8 := hide (show n.ports[k].length ≤ 8 from by
                    have h9 := hm
                    simp only [mayB, Bool.and_eq_true, decide_eq_true_eq] at h9
                    have h10 := (h9.1.2 k hlt).2.2
                    simp only [mayPortsB, Bool.and_eq_true, decide_eq_true_eq, List.getD_eq_getElem?_getD, List.getElem?_eq_getElem hlt2, Option.getD_some] at h10
                    exact h10.2)
                  have lp := hp.len
                  have hkn := hide (kn3.out.below hbA.out (by omega))
                  have hwA := hide (hbw3.out.trans (hbA.out.mono (by omega)))
                  obtain ⟨LA, Lc, hv2, hLs⟩ := own_sl (R := rLink) (f := fun x => [.int .i64 x.1.1, .int .i64 x.1.2, .int .i64 x.2.1, .int .i64 x.2.2]) (fun _ => rfl) (fun _ _ => rfl) hOA.out.own2
                  subst hv2
                  replace hLs := hide hLs
                  have hop := hide (show outPort n l k = n.ports[k].filter (stays n (cutNet n l) k) from by simp [outPort, List.getD_eq_getElem?_getD, hlt2])
                  generalize hBA : wA.heap.size = HA at hLs
                  have hHA : w.heap.size + 3 ≤ HA := by omega
                  go_loopw [10, 11] (fun vp j wr => ∃ i : Nat, i ≤ n.ports[k].length ∧ j = .int .i64 i ∧ Hid (Below HA wA wr) ∧ HA ≤ wr.heap.size ∧ Hid (wr.ownsRow HA 3 1 vp ((n.ports[k].take i).filter (stays n (cutNet n l) k)).length (((n.ports[k].take i).filter (stays n (cutNet n l) k)).map (Value.int .i64)))) (fun _ j _ => n.ports[k].length - (intOf j).toNat)
                  case atStart => exact ⟨0, Nat.zero_le _, rfl, hide (Below.refl _ _), by omega, hide (by simpa using World.ownsRow_nil _ _ _ _)⟩
                  case round =>
                    obtain ⟨i, hi, rfl, hbr, hzr, hvp⟩ := hrel
                    have hc := bcell' hbr.out
                    have hcn := hkn.out.cell
                    have hco := hOA.out.box.cell
                    have hwr := hide (hwA.out.trans (hbr.out.mono (by omega)))
                    have hzw : w.heap.size < wr.heap.size := by omega
                    have hzo : w.heap.size + 2 < wr.heap.size := by omega
                    by_cases hlt3 : i < n.ports[k].length
                    · obtain ⟨z, t, rfl, hz, hcell3⟩ := hp.int hlt3
                      have hS1 : ∀ o', NetS (wr.alloc o') (wr.alloc o').heap.size (some ⟨x, o, none⟩) (some ⟨y, u, none⟩) A3 n := fun o' => ((h.out.below hwr.out).alloc (by omega) o').more (by simp; omega)
                      replace hS1 := hide hS1
                      have hft := hide (filter_take_succ (p := stays n (cutNet n l) k) hlt3)
                      have hyH : y < HA := by omega
                      have hzH : z < HA := by omega
                      have hwH : w.heap.size < HA := by omega
                      have hwH2 : w.heap.size + 2 < HA := by omega
                      go_wp2_with fail
                      refine (next_any n _ _ _ _ _ _ _ _ _ (hS1.out _)).mono ?_
                      rintro e w4 ⟨rfl, hb4⟩
                      have hz4 := hb4.size
                      simp at hz4
                      have e41 : w4.cell? ⟨wr.heap.size, 0, none⟩ = some (.int .i64 (k : Int)) := by rw [(bcell hb4).1 _ _ (by simp), World.cell?_alloc_at _ _ _ _ rfl]; rfl
                      have e42 : w4.cell? ⟨wr.heap.size, 1, none⟩ = some (.int .i64 n.ports[k][i]) := by rw [(bcell hb4).1 _ _ (by simp), World.cell?_alloc_at _ _ _ _ rfl]; rfl
                      have hbr4 := hide (hbr.out.trans (((Below.refl _ _).alloc (Nat.le_refl _) _ |>.trans (hb4.mono (by simp))).mono hzr))
                      replace hb4 := hide hb4
                      have hc4 := bcell' hbr4.out
                      have q1 : w.heap.size < w4.heap.size := by omega
                      have q2 : w.heap.size + 2 < w4.heap.size := by omega
                      have q3 : wr.heap.size < w4.heap.size := by omega
                      have q4 : wr.heap.size < wr.heap.size + 1 := by omega
                      have hS2 : ∀ o', NetS (w4.alloc o') (w4.alloc o').heap.size (some ⟨x, o, none⟩) (some ⟨y, u, none⟩) LA (cutNet n l) := fun o' => by
                        have h1 := (((h.out.below hwA.out).below (hbr4.out.mono (by omega))).alloc (w := w4) (by omega) o').more (B' := (w4.alloc o').heap.size) (by simp; omega)
                        exact ⟨h1.1, h1.2.1, ((hLs.out.below sta_link hbr4.out).alloc sta_link (by omega) o').more sta_link (by simp; omega)⟩
                      replace hS2 := hide hS2
                      go_wp2_with fail
                      refine (next_any (cutNet n l) _ _ _ _ _ _ _ _ _ (hS2.out _)).mono ?_
                      rintro e w5 ⟨rfl, hb5⟩
                      have hz5 := hb5.size
                      simp at hz5
                      have e52 : w5.cell? ⟨wr.heap.size, 1, none⟩ = some (.int .i64 n.ports[k][i]) := by rw [(bcell hb5).1 _ _ (by simp; omega), World.cell?_alloc_past _ _ _ (by omega)]; exact e42
                      have hbr5 := hide (hbr4.out.trans (((Below.refl _ _).alloc (Nat.le_refl _) _ |>.trans (hb5.mono (by simp))).mono (by omega)))
                      have hvp5 := hide (own_below hvp.out ((((Below.refl _ _).alloc (Nat.le_refl _) _).trans (hb4.out.mono (by simp))).trans ((((Below.refl _ _).alloc (Nat.le_refl _) _).trans (hb5.mono (by simp))).mono (by omega))) (Nat.le_refl _))
                      replace hb5 := hide hb5
                      have hc5 := bcell' hbr5.out
                      have r1 : w.heap.size < w5.heap.size := by omega
                      have r2 : w.heap.size + 2 < w5.heap.size := by omega
                      have r3 : wr.heap.size < w5.heap.size := by omega
                      have r4 : wr.heap.size < w4.heap.size + 1 := by omega
                      have hfl8 : ((n.ports[k].take i).filter (stays n (cutNet n l) k)).length ≤ 8 := by
                        refine Nat.le_trans (List.length_filter_le _ _) ?_; rw [List.length_take]; have := hp8.out; omega
                      generalize hfl : (n.ports[k].take i).filter (stays n (cutNet n l) k) = fl at hft hvp5 hfl8
                      clear hfl hvp
                      cases hst : stays n (cutNet n l) k n.ports[k][i] with
                      | true =>
                        have hst' : ((nextB n (↑k, n.ports[k][i])).2.2 == (nextB (cutNet n l) (↑k, n.ports[k][i])).2.2) = true := hst
                        have hft' := hide (show (n.ports[k].take (i + 1)).filter (stays n (cutNet n l) k) = fl ++ [n.ports[k][i]] from by rw [hft.out, if_pos hst])
                        clear hst hft hS1 hS2 hb4 hb5 hc hc4 e41 e42 hp hcell2 hbr4
                        go_wp2_with (at_builtin; refine wpList_append_lies _ rfl (.tmp 137) (.tmp 140) _ rfl HA 3 ii _ 1 8 Try.underlying27 hii hzi0 hzi1 hzi2 rfl (by omega) _ fl.length _ rfl ((hvp5.out.alloc _).alloc _) ⟨w5.heap.size + 1, 0, none⟩ 1 1 [.int .i64 n.ports[k][i]] rfl rfl (World.news_of_block (cs := #[.int .i64 n.ports[k][i]]) (t := 3) (fr := (0, 0)) (by simpa using heap_alloc_new (w5.alloc _) _)) (by simp [Value.oneCell']) (by omega) (by simp [maxLen]; omega) (by omega) (by simp; omega) (w5.heap.size + 2) (by simp) ?_; intro gg cap w6 hown6 hgrow6 hat6 hglt6)
                        have hbr6 := hide (((hbr5.out.alloc (by omega) _).alloc (by simp; omega) _).grown hgrow6 (by simp; omega) (fun g hg => (hvp5.out.lt g hg).1))
                        have hz6 : HA ≤ w6.heap.size := by have := hgrow6.size; simp at this; omega
                        have hown6' := hide (show w6.ownsRow HA 3 1 (.slice (some ⟨gg, 0, none⟩) (fl.length + 1) cap) ((n.ports[k].take (i + 1)).filter (stays n (cutNet n l) k)).length (((n.ports[k].take (i + 1)).filter (stays n (cutNet n l) k)).map (Value.int .i64)) from by rw [hft'.out]; simpa using hown6)
                        clear hown6 hgrow6 hat6
                        go_roundw
                        case rel => exact ⟨i + 1, by omega, by go_num, hbr6, hz6, hown6'⟩
                        case measure => simp [intOf]; omega
                      | false =>
                        have hst' : ((nextB n (↑k, n.ports[k][i])).2.2 == (nextB (cutNet n l) (↑k, n.ports[k][i])).2.2) = false := hst
                        have hft' := hide (show (n.ports[k].take (i + 1)).filter (stays n (cutNet n l) k) = fl from by rw [hft.out, if_neg (by rw [hst]; exact Bool.false_ne_true), List.append_nil])
                        clear hst hft hS1 hS2 hb4 hb5 hc hc4 e41 e42 hp hcell2 hbr4
                        go_wp2
                        go_roundw
                        case rel => exact ⟨i + 1, by omega, by go_num, hide (hbr5.out.alloc (by omega) _), by simp; omega, hide (by rw [hft'.out]; exact hvp5.out.alloc _)⟩
                        case measure => simp [intOf]; omega
                    · have hie : i = n.ports[k].length := by omega
                      subst hie
                      rw [List.take_length, ← hop.out] at hvp
                      have hOr := hide (hOA.out.below hbr.out (by omega))
                      have hlp : ((List.range k).map (outPort n l)).length = k := by simp
                      have hbv := hOr.out.box.cell 1
                      have hbf := hOr.out.box.frozen 1
                      have hoplen := hide (show (outPort n l k).length ≤ 8 from by rw [hop.out]; exact Nat.le_trans (List.length_filter_le _ _) hp8.out)
                      have hbrH := hide (hbr.out)
                      obtain ⟨vs, hvs, hown1, -⟩ := hOr.out.own1
                      rw [hlp] at hown1
                      rw [hlp] at hvs
                      replace hvs := hide hvs
                      replace hlp := hide hlp
                      have ao := own_ne hown1 (show w.heap.size + 2 < w.heap.size + 3 by omega)
                      replace hown1 := hide hown1
                      clear hlt3 hi
                      have hyH : y < HA := by omega
                      have hwH : w.heap.size < HA := by omega
                      have hwH2 : w.heap.size + 2 < HA := by omega
                      obtain ⟨PA, pcap, hu10⟩ := own_form hvp.out
                      subst hu10
                      have hvp1 := hide (own_mono hvp.out hHA)
                      have h1c := hide (own_one hvp.out)
                      go_wp2_with (at_builtin; refine wpList_append_lies _ rfl (.tmp 143) (.tmp 145) _ rfl (w.heap.size + 3) 27 ir _ 1 24 Try.underlying23 hir hzr0 hzr1 hzr2 rfl (by omega) v1 k vs (by rfl) (hown1.out.alloc _) ⟨wr.heap.size, 0, none⟩ 1 1 [.slice PA (outPort n l k).length pcap] (by rfl) (by rfl) (World.news_of_block (cs := #[.slice PA (outPort n l k).length pcap]) (t := 27) (fr := (0, 0)) (heap_alloc_new wr _)) h1c.out (by omega) (by simp [maxLen]; omega) (by omega) (by simp; omega) (wr.heap.size + 1) (by simp) ?_; intro gg cap w6 hown6 hgrow6 hat6 hglt6; have hfz : w6.frozen? ⟨w.heap.size + 2, 1, none⟩ = false := (hgrow6.frozen_far _ (by simp; omega) (Ne.symm ao)).trans ((frozen_alloc hzo).trans hbf); have hcz : w6.cell? ⟨w.heap.size + 2, 1, none⟩ = some v1 := (hgrow6.cell_far _ (by simp; omega) (Ne.symm ao)).trans ((World.cell?_alloc_past _ _ _ hzo).trans hbv))
                      all_goals
                        have hz0 : Below wr.heap.size wr (wr.alloc (.cells #[.slice PA (outPort n l k).length pcap] 27)) := (Below.refl _ _).alloc (Nat.le_refl _) _
                        have hOB := hide (OutS.step1 (p := outPort n l k) hOr.out hlp.out hvp1.out hz0 hgrow6 (fun vs' h1 h2 => by
                          have := hlp.out
                          rw [this] at h2
                          rw [own_unique h2 hown1.out]
                          exact hown6))
                        have hbB := hide (((hbA.out.trans ((hbr.out.trans (hz0.mono (by omega))).mono (by omega))).grown hgrow6 (by simp; omega) (fun g hg => by have := (hown1.out.lt g hg).1; omega)).setCell (p := ⟨w.heap.size + 2, 1, none⟩) (by simp) (.slice (some ⟨gg, 0, none⟩) (k + 1) cap))
                        have hzB : w.heap.size + 3 ≤ (w6.setCell ⟨w.heap.size + 2, 1, none⟩ (.slice (some ⟨gg, 0, none⟩) (k + 1) cap)).heap.size := by have := hgrow6.size; simp [World.setCell] at this ⊢; omega
                        rw [← range_map_succ, ← List.take_succ_eq_append_getElem hlt] at hOB
                        exact ⟨⟨k + 1, by omega, by go_num, hbB, hzB, _, _, hOB⟩, by simp [intOf]; omega⟩
              · have hke : k = n.sw.length := by omega
                subst hke
                rw [List.take_length] at hO
                have hkr := (kr3.out.below hbr.out (by omega))
                have hcr := hkr.cell
                have hfr := hkr.frozen
                have hss := hide h.out.1.strSize
                obtain ⟨B1, B2, B3, d1, d2, d3, heq, -⟩ := hO.out.netS hss.out
                simp only [netV, Value.agg.injEq, Array.mk.injEq, List.cons.injEq, and_true] at heq
                obtain ⟨rfl, rfl, rfl⟩ := heq
                have hOF := fun u0 u1 u2 => hide (((hO.out.far (bo' := w.heap.size + 1) (i := 0) (u := u0) (by omega) (by omega)).far (bo' := w.heap.size + 1) (i := 1) (u := u1) (by omega) (by omega)).far (bo' := w.heap.size + 1) (i := 2) (u := u2) (by omega) (by omega))
                replace hOF := hide hOF
                have hps : ((List.range n.sw.length).map (outPort n l)).length = n.sw.length := by simp
                replace hps := hide hps
                generalize hgl : ((List.range n.sw.length).map (outPort n l)).length = pl at hps hcr hco hOF
                generalize hgk : (keepL n.links l 0).length = kl at hkl hcr hco hOF
                clear hkr hO
                replace hgl := hide hgl
                replace hgk := hide hgk
                go_wp2
                refine bodyPost_ret (v := .tuple #[.agg #[.slice B1 n.sw.length d1, .slice B2 pl d2, .slice B3 kl d3], .int .i64 0]) (by simp [results, Try.results7, go_sem, hcr]) rfl ?_
                rw [hv.out]
                obtain ⟨E1, E2, E3, f1, f2, f3, heq, hS⟩ := (hOF.out (.slice B1 n.sw.length d1) (.slice B2 pl d2) (.slice B3 kl d3)).out.netS hss.out
                refine ⟨E1, E2, E3, f1, f2, f3, by rw [heq]; rfl, hS, ?_⟩
                refine ((hwr.out.setCell ?_ _).setCell ?_ _).setCell ?_ _ <;> simp <;> omega
end Go.Proofs.Ytjijggighppjbaa

import Derived.Test.YtjijggighppjbaaDnS
import Derived.Laws.EntriesVeiled
namespace Go.Proofs.Ytjijggighppjbaa
open Go.RowKit
def outRow (n : Net) (l : List Int) (i : Nat) : List Int := (n.ports.getD i []).filter fun p => !goneB n l (i, p)
def outNet2 (n : Net) (l : List Int) : Net := ⟨n.sw, (List.range n.ports.length).map (outRow n l), keepL n.links l 0⟩
def downNet (n : Net) (l : List Int) : Net × Int := if okNet n l = true then (outNet2 n l, 0) else (emptyNet, 2)
theorem downPost_no {w w' : World} {n : Net} {l : List Int} (h : okNet n l = false) (hb : Below w.heap.size w w') : NetPost w (downNet n l) (.returned (.tuple #[.agg #[.slice none 0 0, .slice none 0 0, .slice none 0 0], .int .i64 2])) w' := by
  have : downNet n l = (emptyNet, 2) := by simp [downNet, h]
  rw [this]
  exact ⟨none, none, none, 0, 0, 0, rfl, netS_empty _ _, hb⟩
theorem idx_no {l : List Int} {k : Nat} (hk : k < l.length) : (findI l l[k] < (k : Int)) ↔ l[k] ∈ l.take k := by
  have h1 := findI_self hk
  have h2 := findI_le hk
  constructor
  · intro h
    by_cases hm : l[k] ∈ l.take k
    · exact hm
    · have := h1.2 hm; omega
  · intro h
    have : ¬ findI l l[k] = (k : Int) := fun e => h1.1 e h
    omega
theorem validTo_in {n : Net} {l : List Int} (h : validTo n l l.length) : ∀ x ∈ l, 0 ≤ x ∧ x < n.links.length := fun x hx => by
  obtain ⟨i, hi, rfl⟩ := List.getElem_of_mem hx
  have := h i hi
  rw [getD_eq hi] at this
  exact ⟨this.1, this.2.1⟩
set_option maxHeartbeats 4000000 in
set_option maxRecDepth 100000 in
theorem dnet_any (n : Net) (l : List Int) (A1 A2 A3 L : Option Addr) (c1 c2 c3 lc : Nat) (m0 : Int) (w : World) (h : NetS w w.heap.size A1 A2 A3 n) (hl : Sl 1 rInt w w.heap.size L l) (hL : n.links.length ≤ 1000) (hlc : l.length ≤ lc) (hm0 : w.cell? ⟨0, 0, none⟩ = some (.int .i64 m0)) :
    Calls Try.prog 6 #[netV n A1 A2 A3 c1 c2 c3, .slice L l.length lc] w (NetPost w (downNet n l)) := by
  obtain ⟨i4, hi4, hz40, hz41, hz42⟩ := info_parts link_info
  obtain ⟨ir, hir, hzr0, hzr1, hzr2⟩ := info_parts introw_info
  have l1 := h.1.len
  have l2 := h.2.1.len
  have l3 := h.2.2.len
  have ll := hl.len
  have h00 : 0 < w.heap.size := World.block_lt_of_cell? w _ hm0
  have hnet : ∀ o1 o2 o3 : Obj, NetS (((w.alloc o1).alloc o2).alloc o3) (((w.alloc o1).alloc o2).alloc o3).heap.size A1 A2 A3 n := fun o1 o2 o3 =>
    (((h.alloc (Nat.le_refl _) o1).alloc (by simp) o2).alloc (by simp; omega) o3).more (by simp; omega)
  have hb0 : ∀ o1 o2 o3 : Obj, Below w.heap.size w (((w.alloc o1).alloc o2).alloc o3) := fun o1 o2 o3 => (((Below.refl _ _).alloc (Nat.le_refl _) _).alloc (by simp) _).alloc (by simp; omega) _
  have hm3 : ∀ o1 o2 o3 : Obj, (((w.alloc o1).alloc o2).alloc o3).cell? ⟨0, 0, none⟩ = some (.int .i64 m0) := fun o1 o2 o3 => ((hb0 o1 o2 o3).cell (p := ⟨0, 0, none⟩) h00).trans hm0
  replace h := hide h
  replace hl := hide hl
  replace hm3 := hide hm3
  clear hm0
  go_enter Try.func6, Try.ntmps6
  cases hm : mayB n with
  | false =>
    have hv := hide (show okNet n l = false from by simp [okNet, hm])
    go_wp2_with (go_at_call 13; refine (tmay_any n _ _ _ _ _ _ m0 _ (hnet _ _ _) (hm3.out _ _ _)).mono ?_; rintro e w1 ⟨rfl, hb1⟩; obtain ⟨hc1, hf1, hz1⟩ := bcell hb1; have hbA := (hb0 _ _ _).trans (hb1.mono (by simp; try omega)); clear hb1; simp at hz1)
    refine bodyPost_ret (v := .tuple #[.agg #[.slice none 0 0, .slice none 0 0, .slice none 0 0], .int .i64 2]) (by simp [results, Try.results6, go_sem, hc1]) rfl (downPost_no hv.out ?_)
    refine ((hbA.setCell ?_ _).setCell ?_ _).setCell ?_ _ <;> simp <;> omega
  | true =>
    go_wp2_with fail
    refine (tmay_any n _ _ _ _ _ _ m0 _ (hnet _ _ _) (hm3.out _ _ _)).mono ?_
    rintro e w1 ⟨rfl, hb1⟩
    clear hnet hm3
    have hbw := (hb0 _ _ _).trans (hb1.mono (by simp; try omega))
    have hz1 : w.heap.size + 3 ≤ w1.heap.size := by have := hb1.size; simp at this; omega
    have kn : Bk w1 w.heap.size 26 #[.slice A1 n.sw.length c1, .slice A2 n.ports.length c2, .slice A3 n.links.length c3] := (((Bk.newAt rfl).alloc _).alloc _).below hb1 (by simp; omega)
    have kl : Bk w1 (w.heap.size + 1) 27 #[.slice L l.length lc] := ((Bk.newAt (by simp)).alloc _).below hb1 (by simp)
    have kr : Bk w1 (w.heap.size + 2) 26 #[.slice none 0 0, .slice none 0 0, .slice none 0 0] := (Bk.newAt (by simp)).below hb1 (by simp)
    clear hb1 hb0
    have hcn := kn.cell
    have hcl := kl.cell
    have hcr := kr.cell
    have hfr := kr.frozen
    replace kn := hide kn
    replace kl := hide kl
    replace kr := hide kr
    replace hbw := hide hbw
    have hlw := hide ((hl.out.below sta_int hbw.out).more sta_int (show w.heap.size ≤ w1.heap.size by omega))
    have hsz1 : w.heap.size + 2 < w1.heap.size := by omega
    go_wp2_with fail
    go_loopw [21] (fun i wr => ∃ k : Nat, k ≤ l.length ∧ i = .int .i64 k ∧ Hid (validTo n l k) ∧ w1 = wr) (fun i _ => l.length - (intOf i).toNat)
    case atStart => exact ⟨0, Nat.zero_le _, rfl, hide (fun i hi => by omega), rfl⟩
    case round =>
      obtain ⟨k, hk, rfl, hok, rfl⟩ := hrel
      by_cases hlt : k < l.length
      · obtain ⟨x, o, rfl, hx, hcell⟩ := hlw.out.int hlt
        have hlti : (k : Int) < (l.length : Int) := by omega
        by_cases p1 : l[k] < 0
        · have hv := hide (okNet_no (n := n) hlt (fun g => by omega))
          go_wp2_with fail
          refine bodyPost_ret (v := .tuple #[.agg #[.slice none 0 0, .slice none 0 0, .slice none 0 0], .int .i64 2]) (by simp [results, Try.results6, go_sem, hcr]) rfl (downPost_no hv.out ?_)
          refine ((hbw.out.setCell ?_ _).setCell ?_ _).setCell ?_ _ <;> simp <;> omega
        · by_cases p2 : l[k] < (n.links.length : Int)
          · by_cases p3 : l[k] ∈ l.take k
            · have hv := hide (okNet_no (n := n) hlt (fun g => g.2.2 p3))
              have d3 := (idx_no hlt).2 p3
              clear p3
              go_wp2_with (go_at_call 14; refine (sindex_any _ _ l _ _ hlw.out).mono ?_; rintro e w' ⟨rfl, rfl⟩)
              refine bodyPost_ret (v := .tuple #[.agg #[.slice none 0 0, .slice none 0 0, .slice none 0 0], .int .i64 2]) (by simp [results, Try.results6, go_sem, hcr]) rfl (downPost_no hv.out ?_)
              refine ((hbw.out.setCell ?_ _).setCell ?_ _).setCell ?_ _ <;> simp <;> omega
            · have hv := hide (validTo_succ hlt hok.out (by omega) p2 p3)
              have d3 : ¬ findI l l[k] < (k : Int) := fun g => p3 ((idx_no hlt).1 g)
              clear p3
              go_wp2_with (go_at_call 14; refine (sindex_any _ _ l _ _ hlw.out).mono ?_; rintro e w' ⟨rfl, rfl⟩)
              go_roundw
              case rel => exact ⟨k + 1, by omega, by go_num, hv, by trivial⟩
              case measure => simp [intOf]; omega
          · have hv := hide (okNet_no (n := n) hlt (fun g => by omega))
            go_wp2_with fail
            refine bodyPost_ret (v := .tuple #[.agg #[.slice none 0 0, .slice none 0 0, .slice none 0 0], .int .i64 2]) (by simp [results, Try.results6, go_sem, hcr]) rfl (downPost_no hv.out ?_)
            refine ((hbw.out.setCell ?_ _).setCell ?_ _).setCell ?_ _ <;> simp <;> omega
      · have hok' := hide (show validTo n l l.length from by have := hok.out; rwa [show k = l.length by omega] at this)
        have hv := hide (show downNet n l = (outNet2 n l, 0) from by
          have := hok'.out; simp [downNet, okNet, hm, this])
        have h8 : n.sw.length ≤ 8 ∧ n.ports.length = n.sw.length := by have := hm; simp only [mayB, Bool.and_eq_true, decide_eq_true_eq] at this; exact this.1.1
        obtain ⟨h81, h82⟩ := h8
        replace h82 := hide h82
        clear hok hk
        have hsS := hide ((h.out.below hbw.out).1.more sta_str (show w.heap.size ≤ w1.heap.size by omega))
        go_wp2_with fail
        refine (cloneS_any _ _ _ _ hsS.out (by omega)).mono ?_
        rintro e w2 ⟨v0, rfl, hown0, hb2⟩
        obtain ⟨V0, vc0, rfl⟩ := own_form hown0
        have hcn2 : ∀ i, w2.cell? ⟨w.heap.size, i, none⟩ = _ := fun i => (hb2.cell (p := ⟨w.heap.size, i, none⟩) (by show w.heap.size < _; omega)).trans (hcn i)
        have hz2 := hb2.size
        have q0 : w.heap.size < w2.heap.size := by omega
        go_wp2
        generalize hBo : w2.heap.size = bo at q0
        have hzb : w.heap.size + 3 ≤ bo := by omega
        obtain ⟨w3, hw3⟩ : ∃ w3, (w2.alloc (.cells #[.slice V0 n.sw.length vc0, .slice none 0 0, .slice none 0 0] 26)).alloc (.cells #[.func (.func 16) #[] #[.pointer (some ⟨w.heap.size + 1, 0, none⟩), .pointer (some ⟨w.heap.size, 0, none⟩)]] 45) = w3 := ⟨_, rfl⟩
        have hb3 : Below w1.heap.size w1 w3 := by rw [← hw3]; exact (hb2.alloc (by omega) _).alloc (by simp; omega) _
        have hz3 : bo + 2 ≤ w3.heap.size := by rw [← hw3, ← hBo]; simp
        have hgo : Bk w3 (bo + 1) 45 #[.func (.func 16) #[] #[.pointer (some ⟨w.heap.size + 1, 0, none⟩), .pointer (some ⟨w.heap.size, 0, none⟩)]] := by rw [← hw3]; exact Bk.newAt (by simp [hBo])
        have hO : OutS w3 (w.heap.size + 3) bo (.slice V0 n.sw.length vc0) (.slice none 0 0) (.slice none 0 0) n.sw ((List.range 0).map (outRow n l)) [] :=
          ⟨by rw [← hw3]; exact (Bk.newAt hBo.symm).alloc _, own_mono (by rw [← hw3]; exact (hown0.alloc _).alloc _) (by omega), World.ownsRow_nil _ _ _ _, [], rfl, World.ownsRow_nil _ _ _ _, fun i v p hv => by simp at hv⟩
        rw [hw3]
        have kn3 := hide (kn.out.below hb3 (by omega))
        have kl3 := hide (kl.out.below hb3 (by omega))
        have kr3 := hide (kr.out.below hb3 (by omega))
        have hbw3 := hide (hbw.out.trans (hb3.mono (by omega)))
        have hl3 := hide ((hl.out.below sta_int hbw3.out).more sta_int (show w.heap.size ≤ bo by omega))
        replace hO := hide hO
        replace hgo := hide hgo
        have hp8 := hide (show ∀ k (hk : k < n.ports.length), n.ports[k].length ≤ 8 from fun k hk => by
          have h9 := hm
          simp only [mayB, Bool.and_eq_true, decide_eq_true_eq] at h9
          have h10 := (h9.1.2 k (by have := h82.out; omega)).2.2
          simp only [mayPortsB, Bool.and_eq_true, decide_eq_true_eq, List.getD_eq_getElem?_getD, List.getElem?_eq_getElem hk, Option.getD_some] at h10
          exact h10.2)
        have hpl8 : n.ports.length ≤ 8 := by have := h82.out; omega
        clear hw3 hb3 hown0 hb2 hz2 hsS hBo hlw hcn hcl hcr hfr hcn2 hsz1 kn kl kr hbw q0
        go_loopw [52] (fun i wr => ∃ k : Nat, k ≤ n.ports.length ∧ i = .int .i64 k ∧ Hid (Below (w.heap.size + 3) w3 wr) ∧ bo + 2 ≤ wr.heap.size ∧ Hid (Bk wr (bo + 1) 45 #[.func (.func 16) #[] #[.pointer (some ⟨w.heap.size + 1, 0, none⟩), .pointer (some ⟨w.heap.size, 0, none⟩)]]) ∧ ∃ v1, Hid (OutS wr (w.heap.size + 3) bo (.slice V0 n.sw.length vc0) v1 (.slice none 0 0) n.sw ((List.range k).map (outRow n l)) [])) (fun i _ => n.ports.length - (intOf i).toNat)
        case atStart => exact ⟨0, Nat.zero_le _, rfl, hide (Below.refl _ _), hz3, hgo, _, hO⟩
        case round =>
          clear hO hgo hz3
          obtain ⟨k, hk, rfl, hbr, hzr, hgo, v1, hO⟩ := hrel
          by_cases hlt2 : k < n.ports.length
          · have hwr := hide (hbw3.out.trans (hbr.out.mono (by omega)))
            have hnr := hide ((h.out.below hwr.out).more (show w.heap.size ≤ wr.heap.size by omega))
            obtain ⟨y, u, P, pc, hA2, hy, hcell2, hp⟩ := hnr.out.2.1.ints hlt2
            subst hA2
            have hrow : outRow n l k = n.ports[k].filter (fun p => !goneB n l (k, p)) := by unfold outRow; rw [getD_eq hlt2]
            replace hrow := hide hrow
            have hp8k := hp8.out k hlt2
            replace hp := hide hp
            have hlti : (k : Int) < (n.ports.length : Int) := by omega
            go_wp2_with fail
            refine (cloneI_any _ _ _ _ ((hp.out.alloc sta_int (Nat.le_refl _) _).more sta_int (by simp)) (by omega)).mono ?_
            rintro e w4 ⟨v4, rfl, hown4, hb4⟩
            obtain ⟨V4, vc4, rfl⟩ := own_form hown4
            simp only [World.size_alloc] at hown4 hb4
            have bo4 : w4.cell? ⟨wr.heap.size, 0, none⟩ = some (.int .i64 (k : Int)) := by rw [hb4.cell (p := ⟨wr.heap.size, 0, none⟩) (by show wr.heap.size < _; omega), World.cell?_alloc_at _ _ _ _ rfl]; rfl
            have hb4' : Below wr.heap.size wr w4 := ((Below.refl _ _).alloc (Nat.le_refl _) _).trans (hb4.mono (by omega))
            have hz4 := hb4.size
            simp only [World.size_alloc] at hz4
            have hfn : FnB (wr.heap.size + 1) 21 #[.pointer (some ⟨bo + 1, 0, none⟩), .pointer (some ⟨wr.heap.size, 0, none⟩)] (fun p => goneB n l (k, p)) n.ports[k] w4 := fun x W hx hb => by
              have hb' : Below wr.heap.size wr W := hb4'.trans (hb.mono (by omega))
              have hbw' := hwr.out.trans (hb'.mono (by omega))
              have hzW := hb.size
              refine net2_any n l A3 L c3 lc w.heap.size (w.heap.size + 1) (bo + 1) wr.heap.size k x W ((h.out.below hbw').2.2.more sta_link (by omega)) ((hl.out.below sta_int hbw').more sta_int (by omega)) (by omega) (by omega) ?_ ?_ (validTo_in hok'.out) ?_ ?_
              · exact (((kn3.out.below hbr.out (by omega)).below hb' (by omega)).cell 2).trans rfl
              · exact (((kl3.out.below hbr.out (by omega)).below hb' (by omega)).cell 0).trans rfl
              · exact ((hgo.out.below hb' (by omega)).cell 0).trans rfl
              · exact (hb.cell (p := ⟨wr.heap.size, 0, none⟩) (by show wr.heap.size < _; omega)).trans bo4
            replace hfn := hide hfn
            replace hown4 := hide hown4
            replace hb4' := hide hb4'
            clear hb4 bo4
            go_wp2_with fail
            refine (deleteFunc_any _ _ enters21 (fun p => goneB n l (k, p)) (wr.heap.size + 1) _ n.ports[k] w4 hown4.out (by omega) (by omega) hfn.out).mono ?_
            rintro e w5 ⟨v5, rfl, hown5, hb5⟩
            rw [← hrow.out] at hown5
            obtain ⟨V5, vc5, rfl⟩ := own_form hown5
            have hb5' := hide (hb4'.out.trans (hb5.mono (by omega)))
            have hz5 := hb5.size
            have hO5 := hide (hO.out.below hb5'.out (Nat.le_refl _))
            have hlp : ((List.range k).map (outRow n l)).length = k := by simp
            obtain ⟨vs, hvs, hown1, -⟩ := hO5.out.own1
            rw [hlp] at hown1 hvs
            have hbv : w5.cell? ⟨bo, 1, none⟩ = some v1 := (hO5.out.box.cell 1).trans rfl
            have hbf := hO5.out.box.frozen 1
            have ao := Bk.ne_own hO5.out.box hown1 (by decide)
            have hu5 := hide (own_mono hown5 (show w.heap.size + 3 ≤ wr.heap.size + 1 by omega))
            have h1c := hide (own_one hown5)
            have hzo : bo < w5.heap.size := by omega
            have hz53 : w.heap.size + 3 ≤ w5.heap.size := by omega
            have hb0r : Below (w.heap.size + 3) wr w5 := hb5'.out.mono (by omega)
            replace hb0r := hide hb0r
            have hgo5 := hide (hgo.out.below hb5'.out (by omega))
            replace hown1 := hide hown1
            replace hlp := hide hlp
            replace hvs := hide hvs
            clear hfn hown4 hown5 hb5 hcell2 hb4'
            go_wp2_with (at_builtin; refine wpList_append_lies _ rfl (.tmp 62) (.tmp 64) _ rfl (w.heap.size + 3) 27 ir _ 1 24 Try.underlying23 hir hzr0 hzr1 hzr2 rfl (by omega) v1 k vs (by rfl) (hown1.out.alloc _) ⟨w5.heap.size, 0, none⟩ 1 1 [.slice V5 (outRow n l k).length vc5] (by rfl) (by rfl) (World.news_of_block (cs := #[.slice V5 (outRow n l k).length vc5]) (t := 27) (fr := (0, 0)) (heap_alloc_new w5 _)) h1c.out (by omega) (by simp [maxLen]; omega) (by omega) (by simp; omega) (w5.heap.size + 1) (by simp) ?_; intro gg cap w6 hown6 hgrow6 hat6 hglt6; have hfz : w6.frozen? ⟨bo, 1, none⟩ = false := (hgrow6.frozen_far _ (by simp; omega) (Ne.symm ao)).trans ((frozen_alloc hzo).trans hbf); have hcz : w6.cell? ⟨bo, 1, none⟩ = some v1 := (hgrow6.cell_far _ (by simp; omega) (Ne.symm ao)).trans ((World.cell?_alloc_past _ _ _ hzo).trans hbv))
            all_goals
              have hz0 : Below w5.heap.size w5 (w5.alloc (.cells #[.slice V5 (outRow n l k).length vc5] 27)) := (Below.refl _ _).alloc (Nat.le_refl _) _
              have hOB := hide (OutS.step1 (p := outRow n l k) hO5.out hlp.out hu5.out hz0 hgrow6 (fun vs' h1 h2 => by
                have := hlp.out
                rw [this] at h2
                rw [own_unique h2 hown1.out]
                exact hown6))
              have hbB := hide (((hbr.out.trans (hb0r.out.trans (hz0.mono (by omega)))).grown hgrow6 (by simp; omega) (fun g hg => (hown1.out.lt g hg).1)).setCell (p := ⟨bo, 1, none⟩) (by simpa using hzb) (.slice (some ⟨gg, 0, none⟩) (k + 1) cap))
              have hzB : bo + 2 ≤ (w6.setCell ⟨bo, 1, none⟩ (.slice (some ⟨gg, 0, none⟩) (k + 1) cap)).heap.size := by have := hgrow6.size; simp [World.setCell] at this ⊢; omega
              have hgB := hide (((hgo5.out.alloc (.cells #[.slice V5 (outRow n l k).length vc5] 27)).grown hgrow6 (Ne.symm (Bk.ne_own hgo5.out hown1.out (by decide)))).far (p := ⟨bo, 1, none⟩) (by simp) (.slice (some ⟨gg, 0, none⟩) (k + 1) cap))
              rw [← range_map_succ] at hOB
              exact ⟨⟨k + 1, by omega, by go_num, hbB, hzB, hgB, _, hOB⟩, by simp [intOf]; omega⟩
          · have hke : k = n.ports.length := by omega
            subst hke
            have hwr := hide (hbw3.out.trans (hbr.out.mono (by omega)))
            have hcn := (kn3.out.below hbr.out (by omega)).cell
            have hzo : w.heap.size < wr.heap.size := by omega
            go_wp2_with fail
            obtain ⟨w7, rfl⟩ : ∃ w7 : World, w7 = wr := ⟨_, rfl⟩
            clear hcn
            have hkl7 := hide (kl3.out.below hbr.out (by omega))
            have hkr7 := hide (kr3.out.below hbr.out (by omega))
            replace hO : Hid (OutS w7 (w.heap.size + 3) bo (.slice V0 n.sw.length vc0) v1 (.slice none 0 0) n.sw ((List.range n.ports.length).map (outRow n l)) (keepL (n.links.take 0) l 0)) := hO
            clear hgo hbr kn3 kl3 kr3 hbw3 hl3 hlt2
            go_loopw [71] (fun i wr => ∃ k : Nat, k ≤ n.links.length ∧ i = .int .i64 k ∧ Hid (Below (w.heap.size + 3) w7 wr) ∧ bo + 2 ≤ wr.heap.size ∧ ∃ v2, Hid (OutS wr (w.heap.size + 3) bo (.slice V0 n.sw.length vc0) v1 v2 n.sw ((List.range n.ports.length).map (outRow n l)) (keepL (n.links.take k) l 0))) (fun i _ => n.links.length - (intOf i).toNat)
            case atStart => exact ⟨0, Nat.zero_le _, rfl, hide (Below.refl _ _), hzr, _, hO⟩
            case round =>
              clear hO hzr hzo
              obtain ⟨k, hk, rfl, hbr, hzr, v2, hO⟩ := hrel
              have hw2 := hide (hwr.out.trans (hbr.out.mono (by omega)))
              by_cases hlt3 : k < n.links.length
              · have hlti : (k : Int) < (n.links.length : Int) := by omega
                obtain ⟨x, o, hA, hx, x1, x2, x3, x4⟩ := (h.out.below hw2.out).2.2.link hlt3
                subst hA
                have hkt := hide (keepL_take (ls := n.links) (l := l) hlt3)
                have hlr : ∀ ob, Sl 1 rInt (wr.alloc ob) (wr.alloc ob).heap.size L l := fun ob => ((hl.out.below sta_int hw2.out).alloc sta_int (by omega) ob).more sta_int (by simp; omega)
                replace hlr := hide hlr
                have hcl := (hkl7.out.below hbr.out (by omega)).cell
                have hzl : w.heap.size + 1 < wr.heap.size := by omega
                by_cases hin : (k : Int) ∈ l
                · have hd : decide ((k : Int) ∈ l) = true := by simpa using hin
                  have hO' := hide (show OutS (wr.alloc (.cells #[.int .i64 n.links[k].1.1, .int .i64 n.links[k].1.2, .int .i64 n.links[k].2.1, .int .i64 n.links[k].2.2] 40)) (w.heap.size + 3) bo (.slice V0 n.sw.length vc0) v1 v2 n.sw ((List.range n.ports.length).map (outRow n l)) (keepL (n.links.take (k + 1)) l 0) from by
                    rw [hkt.out, if_pos hin, List.append_nil]; exact hO.out.below ((Below.refl _ _).alloc (Nat.le_refl _) _) (Nat.le_refl _))
                  clear hin
                  go_wp2_with (go_at_call 22; refine (scontains_any _ _ l _ _ (hlr.out _)).mono ?_; rintro e w' ⟨rfl, rfl⟩)
                  go_roundw
                  case rel => exact ⟨k + 1, by omega, by go_num, hide (hbr.out.alloc (by omega) _), by simp; omega, v2, hO'⟩
                  case measure => simp [intOf]; omega
                · have hd : decide ((k : Int) ∈ l) = false := by simpa using hin
                  have hkk := hide (show keepL (n.links.take (k + 1)) l 0 = keepL (n.links.take k) l 0 ++ [n.links[k]] from by rw [hkt.out, if_neg hin])
                  have hlen : (keepL (n.links.take k) l 0).length ≤ k := by
                    unfold keepL; rw [List.length_map]; refine Nat.le_trans (List.length_filter_le _ _) ?_; simp; omega
                  clear hin hkt
                  generalize hlk : keepL (n.links.take k) l 0 = lk at hO hkk hlen
                  clear hlk
                  have hOa := hide (hO.out.below ((Below.refl _ _).alloc (Nat.le_refl _) (.cells #[.int .i64 n.links[k].1.1, .int .i64 n.links[k].1.2, .int .i64 n.links[k].2.1, .int .i64 n.links[k].2.2] 40)) (Nat.le_refl _))
                  have hbv : wr.cell? ⟨bo, 2, none⟩ = some v2 := (hO.out.box.cell 2).trans rfl
                  have hbf := hO.out.box.frozen 2
                  have ao := Bk.ne_own hO.out.box hO.out.own2 (by decide)
                  have hown2 := hide hO.out.own2
                  have hzo : bo < wr.heap.size := by omega
                  have hz3 : w.heap.size + 3 ≤ wr.heap.size := by omega
                  go_wp2_with (first | (go_at_call 22; refine (scontains_any _ _ l _ _ (hlr.out _)).mono ?_; rintro e w' ⟨rfl, rfl⟩) | (at_builtin; refine wpList_append_lies _ rfl (.tmp 81) (.tmp 83) _ rfl (w.heap.size + 3) 40 i4 _ 4 32 Try.underlying24 hi4 hz40 hz41 hz42 rfl (by omega) v2 lk.length _ (by rfl) ((hown2.out.alloc _).alloc _) ⟨wr.heap.size + 1, 0, none⟩ 1 1 [.int .i64 n.links[k].1.1, .int .i64 n.links[k].1.2, .int .i64 n.links[k].2.1, .int .i64 n.links[k].2.2] (by rfl) (by rfl) (World.news_of_block (cs := #[.int .i64 n.links[k].1.1, .int .i64 n.links[k].1.2, .int .i64 n.links[k].2.1, .int .i64 n.links[k].2.2]) (t := 40) (fr := (0, 0)) (by simpa using heap_alloc_new (wr.alloc _) _)) (by simp [Value.oneCell']) (by omega) (by simp [maxLen]; omega) (by omega) (by simp; omega) (wr.heap.size + 2) (by simp) ?_; intro gg cap w8 hown8 hgrow8 hat8 hglt8; have hfz : w8.frozen? ⟨bo, 2, none⟩ = false := (hgrow8.frozen_far _ (by simp; omega) (Ne.symm ao)).trans ((frozen_alloc (by simp; omega)).trans ((frozen_alloc hzo).trans hbf)); have hcz : w8.cell? ⟨bo, 2, none⟩ = some v2 := (hgrow8.cell_far _ (by simp; omega) (Ne.symm ao)).trans ((World.cell?_alloc_past _ _ _ (by simp; omega)).trans ((World.cell?_alloc_past _ _ _ hzo).trans hbv))))
                  have hz0 : Below wr.heap.size wr ((wr.alloc (.cells #[.int .i64 n.links[k].1.1, .int .i64 n.links[k].1.2, .int .i64 n.links[k].2.1, .int .i64 n.links[k].2.2] 40)).alloc (.cells #[.int .i64 n.links[k].1.1, .int .i64 n.links[k].1.2, .int .i64 n.links[k].2.1, .int .i64 n.links[k].2.2] 40)) := ((Below.refl _ _).alloc (Nat.le_refl _) _).alloc (by simp) _
                  have hOB := hide (OutS.step2 (x := n.links[k]) hO.out rfl hz0 hgrow8 hown8)
                  rw [← hkk.out] at hOB
                  have hbB := hide (((hbr.out.trans (hz0.mono (by omega))).grown hgrow8 (by simp; omega) (fun g hg => (hown2.out.lt g hg).1)).setCell (p := ⟨bo, 2, none⟩) (by simpa using hzb) (.slice (some ⟨gg, 0, none⟩) (lk.length + 1) cap))
                  have hzB : bo + 2 ≤ (w8.setCell ⟨bo, 2, none⟩ (.slice (some ⟨gg, 0, none⟩) (lk.length + 1) cap)).heap.size := by have := hgrow8.size; simp [World.setCell] at this ⊢; omega
                  exact ⟨⟨k + 1, by omega, by go_num, hbB, hzB, _, hOB⟩, by simp [intOf]; omega⟩
              · have hke : k = n.links.length := by omega
                subst hke
                rw [List.take_length] at hO
                have hss := hide h.out.1.strSize
                obtain ⟨B1, B2, B3, d1, d2, d3, heq, -⟩ := hO.out.netS hss.out
                simp only [netV, Value.agg.injEq, Array.mk.injEq, List.cons.injEq, and_true] at heq
                obtain ⟨heq1, rfl, rfl⟩ := heq
                have hcr := (hkr7.out.below hbr.out (by omega)).cell
                have hfr := (hkr7.out.below hbr.out (by omega)).frozen
                have hco := hO.out.box.cell
                have hzo : bo < wr.heap.size := by omega
                have hOF := fun u0 u1 u2 => hide (((hO.out.far (bo' := w.heap.size + 2) (i := 0) (u := u0) (by omega) (by omega)).far (bo' := w.heap.size + 2) (i := 1) (u := u1) (by omega) (by omega)).far (bo' := w.heap.size + 2) (i := 2) (u := u2) (by omega) (by omega))
                replace hOF := hide hOF
                generalize hgl : ((List.range n.ports.length).map (outRow n l)).length = pl at hcr hco hOF
                generalize hgk : (keepL n.links l 0).length = kl at hcr hco hOF
                replace hgl := hide hgl
                replace hgk := hide hgk
                clear hO heq1
                go_wp2
                refine bodyPost_ret (v := .tuple #[.agg #[.slice V0 n.sw.length vc0, .slice B2 pl d2, .slice B3 kl d3], .int .i64 0]) (by simp [results, Try.results6, go_sem, hcr]) rfl ?_
                rw [hv.out]
                obtain ⟨E1, E2, E3, f1, f2, f3, heq, hS⟩ := (hOF.out (.slice V0 n.sw.length vc0) (.slice B2 pl d2) (.slice B3 kl d3)).out.netS hss.out
                refine ⟨E1, E2, E3, f1, f2, f3, by rw [heq]; rfl, hS, ?_⟩
                refine ((hw2.out.setCell ?_ _).setCell ?_ _).setCell ?_ _ <;> simp <;> omega
end Go.Proofs.Ytjijggighppjbaa

import Derived.Test.YtmfpbahifhndjaaGreatLow11
import Derived.Test.YtmfpbahifhndjaaGreatLow12
import Derived.Lib.AppendZerosOnto
import Derived.Deep.RegionHeld3
set_option linter.all false
/-! Layer 10: keys' widths. -/
set_option linter.all false
namespace Go.Proofs.YtmfpbahifhndjaaGreat
open Go.RowKit
attribute [local go_sem ↓] app_eq
theorem wds_app (f : List Nd → Option Int) : ∀ (a b : List (List Nd)), wds f (a ++ b) = match wds f a with
  | none => none
  | some ws => (wds f b).map (ws ++ ·)
 | [], b => by simp only [List.nil_append, wds]; cases wds f b <;> rfl
 | c :: a, b => by
  simp only [List.cons_append, wds, wds_app f a b]
  cases f c with
  | none => rfl
  | some w =>
   simp only
   cases wds f a with
   | none => rfl
   | some ws => simp only [Option.map_some]; cases wds f b <;> rfl
theorem wds_succ {f : List Nd → Option Int} {l : List (List Nd)} {k : Nat} {ws : List Int} {x : Int} (hk : k < l.length) (h : wds f (l.take k) = some ws) (hx : f l[k] = some x) : wds f (l.take (k + 1)) = some (ws ++ [x]) := by
 rw [List.take_succ_eq_append_getElem hk, wds_app, h]
 simp only [wds, hx, Option.map_some]
theorem wds_stop {f : List Nd → Option Int} {l : List (List Nd)} {k : Nat} {ws : List Int} (hk : k < l.length) (h : wds f (l.take k) = some ws) (hx : f l[k] = none) : wds f l = none := by
 have hc : l = l.take k ++ (l[k] :: l.drop (k + 1)) := by rw [List.getElem_cons_drop, List.take_append_drop]
 rw [hc, wds_app, h]
 simp only [wds, hx, Option.map_none]
/-- What keys answers. -/
def KeysP (p : Lp) (l : List (List Nd)) (base : Nat) (e : Ending) (w' : World) : Prop := match wds (wdL p (-1)) l with
 | none => e = .returned (.tuple #[.slice none 0 0, .bool false])
 | some ws => ∃ B cp, e = .returned (.tuple #[.slice B ws.length cp, .bool (decide (l.length ≤ 4))]) ∧ InS w' base (.slice B ws.length cp) ws
theorem Sl.code {w : World} {B : Nat} {A : Option Addr} {l : List (List Nd)} (h : Sl 1 rCd w B A l) {i : Nat} (hi : i < l.length) : ∃ b o A' c', A = some ⟨b, o, none⟩ ∧ b < B ∧ w.cell? ⟨b, o + i, none⟩ = some (.slice A' l[i].length c') ∧ Sl 6 rNd w B A' l[i] := by
 obtain ⟨b, o, u, hA, hb, hc, A', c', hr, hs⟩ := h.at1 hi
 cases hr
 exact ⟨b, o, A', c', hA, hb, hc, hs⟩
set_option maxRecDepth 100000 in
set_option maxHeartbeats 4000000 in
theorem keys_any (A1 A2 A3 A4 A5 A6 A7 A8 A9 A10 A11 A12 : Option Addr) (p : Lp) (c1 c2 c3 c4 c5 c6 c7 c8 c9 c10 c11 c12 : Nat) (l : List (List Nd)) (A : Option Addr) (cap : Nat) (w : World) (h : LpS w w.heap.size A1 A2 A3 A4 A5 A6 A7 A8 A9 A10 A11 A12 p) (hk : Sl 1 rCd w w.heap.size A l) (hsm : l.length ≤ sm) :
  Calls Tryz.prog 64 #[.agg #[.slice A1 p.heads.length c1, .slice A2 p.metas.length c2, .slice A3 p.steps.length c3, .slice A4 p.acts.length c4, .slice A5 p.tabs.length c5, .slice A6 p.control.length c6, .slice A7 p.emit.length c7, .slice A8 p.nh.length c8, .slice A9 p.nf.length c9, .slice A10 p.nm.length c10, .slice A11 p.na.length c11, .slice A12 p.nt.length c12], .slice A l.length cap] w fun e w' => KeysP p l w.heap.size e w' ∧ Below w.heap.size w w' := by
 have hlen := hk.len
 have hsm' : l.length ≤ 1048576 := hsm
 obtain ⟨wz, hwz, hsz, hbz, hcz, -⟩ := box1 w #[.slice A1 p.heads.length c1, .slice A2 p.metas.length c2, .slice A3 p.steps.length c3, .slice A4 p.acts.length c4, .slice A5 p.tabs.length c5, .slice A6 p.control.length c6, .slice A7 p.emit.length c7, .slice A8 p.nh.length c8, .slice A9 p.nf.length c9, .slice A10 p.nm.length c10, .slice A11 p.na.length c11, .slice A12 p.nt.length c12] 33
 have hP := hide (h.below hbz)
 have hC := hide (hk.below sta_cd hbz)
 have hl1 : w.heap.size < wz.heap.size := by omega
 replace hbz := hide hbz
 replace hsz := hide hsz
 clear h hk
 go_enter Tryz.func64, Tryz.ntmps64
 go_wp2
 go_loopw [6, 8, 9, 10, 13] (fun v _ _ _ i wr => ∃ (k : Nat) (ws : List Int) (B : Option Addr) (cp : Nat), k ≤ l.length ∧ i = .int .i64 k ∧ v = .slice B ws.length cp ∧ Hid (ws.length = k) ∧ Hid (wds (wdL p (-1)) (l.take k) = some ws) ∧ Hid (InS wr wz.heap.size (.slice B ws.length cp) ws) ∧ Hid (Below wz.heap.size wz wr)) (fun _ _ _ _ i _ => l.length - (intOf i).toNat)
 case atStart => exact ⟨0, [], none, 0, Nat.zero_le _, rfl, rfl, hide rfl, hide rfl, hide (InS.nil_ _ _), hide (Below.refl _ _)⟩
 case round =>
  obtain ⟨k, ws, B, cp, hk, rfl, rfl, hwk, hf, hI, hG⟩ := hrel
  have hzr := hG.out.size
  have hgo := hide (fun W (hW : Below wz.heap.size wr W) => hbz.out.trans ((hG.out.trans hW).mono hbz.out.size))
  by_cases hlt : k < l.length
  ·have hkz : (k : Int) < (l.length : Int) := by omega
   obtain ⟨b, o, A', c', rfl, hb, hcell, hE⟩ := (hC.out.below sta_cd (hG.out.mono hbz.out.size)).code hlt
   have Yn := fun i => (hG.out.cell (p := ⟨w.heap.size, i, none⟩) hl1).trans (hcz i)
   have y0 := Yn 0
   have y1 := Yn 1
   have y2 := Yn 2
   have y3 := Yn 3
   have y4 := Yn 4
   have y5 := Yn 5
   have y6 := Yn 6
   have y7 := Yn 7
   have y8 := Yn 8
   have y9 := Yn 9
   have y10 := Yn 10
   have y11 := Yn 11
   simp only [List.getElem?_toArray, List.getElem?_cons_zero, List.getElem?_cons_succ] at y0 y1 y2 y3 y4 y5 y6 y7 y8 y9 y10 y11
   have hW := width_any A1 A2 A3 A4 A5 A6 A7 A8 A9 A10 A11 A12 p c1 c2 c3 c4 c5 c6 c7 c8 c9 c10 c11 c12 (-1) l[k] A' c' wr ((hP.out.below (hG.out.mono hbz.out.size)).more (by omega)) (hE.more sta_nd (by omega))
   unfold wdV at hW
   cases ho : wdL p (-1) l[k] with
   | none =>
    have hv := hide (wds_stop hlt hf.out ho)
    rw [ho] at hW
    replace hW := hide hW
    clear Yn hE
    go_wp2_with (go_at_call 6; refine hW.out.mono ?_; rintro e w4 ⟨rfl, hb4⟩)
    refine bodyPost_ret (results_tmp2 rfl _ _ _) rfl ⟨?_, hgo.out _ (hb4.mono hzr)⟩
    unfold KeysP
    rw [hv.out]
    rfl
   | some x =>
    have hv := hide (wds_succ hlt hf.out ho)
    rw [ho] at hW
    replace hW := hide hW
    clear Yn hE
    go_upto_region 8 with (go_at_call 6; refine hW.out.mono ?_; rintro e w4 ⟨rfl, hb4⟩)
    obtain ⟨v', w', hr, hI', hB'⟩ := append_i x (hI.out.below hb4 (Nat.le_refl _)) (Nat.le_trans hzr hb4.size) (by have := hwk.out; unfold bigI; omega)
    obtain ⟨Au, cu, rfl⟩ := hI'.form
    have hN := hide (hG.out.trans ((hb4.mono hzr).trans hB'))
    have hl5 := hide (show (ws ++ [x]).length = k + 1 from by simp [hwk.out])
    replace hI' := hide hI'
    simp only [List.length_append, List.length_cons, List.length_nil, Nat.zero_add] at hr
    clear hB' hb4
    go_wp2
    go_roundw
    case rel => exact ⟨k + 1, ws ++ [x], Au, cu, by omega, by go_num, by simp, hl5, hv, hI', hN⟩
    case measure => simp [intOf]; omega
  ·have hke : k = l.length := by omega
   rw [hke, List.take_length] at hf
   have hgE := hide (hgo.out _ (Below.refl _ _))
   by_cases h4 : l.length ≤ 4
   ·have h4z : decide ((l.length : Int) ≤ 4) = true := decide_eq_true (by omega)
    have h4d := hide (decide_eq_true h4)
    go_wp2
    refine bodyPost_ret (results_tmp2 rfl _ _ _) rfl ⟨?_, hgE.out⟩
    unfold KeysP
    rw [hf.out]
    exact ⟨B, cp, by rw [h4d.out] <;> rfl, hI.out.mono (by omega)⟩
   ·have h4z : decide ((l.length : Int) ≤ 4) = false := decide_eq_false (by omega)
    have h4d := hide (decide_eq_false h4)
    go_wp2
    refine bodyPost_ret (results_tmp2 rfl _ _ _) rfl ⟨?_, hgE.out⟩
    unfold KeysP
    rw [hf.out]
    exact ⟨B, cp, by rw [h4d.out] <;> rfl, hI.out.mono (by omega)⟩
end Go.Proofs.YtmfpbahifhndjaaGreat
/-! Layer 10: Grow and Concat of codes. -/
namespace Go.Proofs.YtmfpbahifhndjaaGreat
open Go.RowKit
attribute [local go_sem ↓] app_eq
set_option maxRecDepth 100000 in
set_option maxHeartbeats 4000000 in
theorem grow_nil (n : Nat) (h0 : 0 < n) (hn : n ≤ bigI) (w : World) :
  Calls Tryz.prog 129 #[.slice none 0 0, .int .i64 n] w fun e w' => ∃ A cap, e = .returned (.slice A 0 cap) ∧ NdS w' w.heap.size (.slice A 0 cap) [] ∧ Below w.heap.size w w' := by
 unfold bigI at hn
 obtain ⟨ii, hii, hzi0, hzi1, hzi2⟩ := info_parts node_info
 have hrun : (AppG #[35, 3] 35 #[.slice none 0 0, .int .i64 (n : Int)]).run Tryz.prog w = _ :=
  Lib.run_append_grow_zeros (P := Tryz.prog) w 35 3 35 79 ii _ .i64 .i64 Tryz.underlying35 Tryz.underlying3 hii hzi0 none 0 0 [] (run_firstCells_none w.drew ii.size 0 0 0) n h0 (by omega) (by omega) (by omega) (by rw [hzi2]; omega) (growslice_fits (by omega) (by rw [hzi2]; omega))
 have hge := grownCap_ge w (0 + n) 0 79
 have hle := grownCap_le_maxLen w (0 + n) 0 79 (by unfold maxLen; omega)
 rw [Nat.zero_add] at hrun hge hle
 have hown : NdS (w.drew.alloc (.cells (([] : List Value).toArray ++ Builtin.zeroCells (Value.agg #[.int .u8 0, .int .i64 0, .int .i64 0, .int .i64 0, .int .u64 0, .int .u64 0]).cells n ++ Builtin.zeroCells (Value.agg #[.int .u8 0, .int .i64 0, .int .i64 0, .int .i64 0, .int .u64 0, .int .u64 0]).cells (grownCap w n 0 79 - n)) 79)) w.heap.size (.slice (some ⟨w.heap.size, 0, none⟩) 0 (grownCap w n 0 79)) [] := by
  refine ⟨fun x hx => by simp at hx, rfl, .inr ⟨w.heap.size, _, _, rfl, Nat.le_refl _, heap_alloc_new w.drew _, Nat.zero_le _, hle, ?_, by simp⟩⟩
  simp only [Array.size_append, size_zeroCells, Value.cells, List.size_toArray, List.length_nil]
  show 0 + n * 6 + _ * 6 = _
  omega
 have hbel : Below w.heap.size w (w.drew.alloc (.cells (([] : List Value).toArray ++ Builtin.zeroCells (Value.agg #[.int .u8 0, .int .i64 0, .int .i64 0, .int .i64 0, .int .u64 0, .int .u64 0]).cells n ++ Builtin.zeroCells (Value.agg #[.int .u8 0, .int .i64 0, .int .i64 0, .int .i64 0, .int .u64 0, .int .u64 0]).cells (grownCap w n 0 79 - n)) 79)) := ((Below.refl _ _).drew).alloc (Nat.le_refl _) _
 generalize (w.drew.alloc (.cells (([] : List Value).toArray ++ Builtin.zeroCells (Value.agg #[.int .u8 0, .int .i64 0, .int .i64 0, .int .i64 0, .int .u64 0, .int .u64 0]).cells n ++ Builtin.zeroCells (Value.agg #[.int .u8 0, .int .i64 0, .int .i64 0, .int .i64 0, .int .u64 0, .int .u64 0]).cells (grownCap w n 0 79 - n)) 79)) = wg at hrun hown hbel
 generalize grownCap w n 0 79 = G at hrun hown hge hle
 unfold maxLen at hle
 have hnz : ¬ ((n : Int) < 0) := by omega
 have hnp : (0 : Int) < (n : Int) := by omega
 replace hown := hide hown
 replace hbel := hide hbel
 go_enter Tryz.func129, Tryz.ntmps129
 go_wp2
 go_ret
 exact ⟨_, _, rfl, hown.out, hbel.out⟩
/-- How many nodes there are in all. -/
def flen (l : List (List Nd)) : Nat := l.flatten.length
theorem flen_take {l : List (List Nd)} {k : Nat} (h : k < l.length) : flen (l.take (k + 1)) = flen (l.take k) + l[k].length := by
 unfold flen
 rw [List.take_succ_eq_append_getElem h, List.flatten_append]; simp
theorem flat_take {l : List (List Nd)} {k : Nat} (h : k < l.length) : (l.take (k + 1)).flatten = (l.take k).flatten ++ l[k] := by
 rw [List.take_succ_eq_append_getElem h, List.flatten_append]; simp
theorem flen_le (l : List (List Nd)) (k : Nat) : flen (l.take k) ≤ flen l := by
 have := congrArg (fun x => x.flatten.length) (List.take_append_drop k l)
 simp only [List.flatten_append, List.length_append] at this
 unfold flen
 omega
theorem NdS.cast {w : World} {base : Nat} {v : Value} {l m : List Nd} (h : NdS w base v l) (e : l = m) : NdS w base v m := e ▸ h
set_option maxRecDepth 100000 in
set_option maxHeartbeats 8000000 in
theorem concat_any (l : List (List Nd)) (A : Option Addr) (cap : Nat) (w : World) (hs : Sl 1 rCd w w.heap.size A l) (hne : ∀ x ∈ l, 0 < x.length) (h0 : 0 < flen l) (hn : flen l ≤ bigI) :
  Calls Tryz.prog 113 #[.slice A l.length cap] w fun e w' => ∃ A' cap', e = .returned (.slice A' (flen l) cap') ∧ NdS w' w.heap.size (.slice A' (flen l) cap') l.flatten ∧ Below w.heap.size w w' := by
 have hlen := hs.len
 have hn' : flen l ≤ 100000000 := hn
 have hgr := hide (grow_nil (flen l) h0 hn w)
 have hne' := hide hne
 clear hne
 go_enter Tryz.func113, Tryz.ntmps113
 go_wp2
 go_loop [3, 5, 11] (fun s _ i => ∃ k : Nat, k ≤ l.length ∧ i = .int .i64 k ∧ s = .int .i64 (flen (l.take k))) (fun _ _ i => l.length - (intOf i).toNat)
 case atStart => exact ⟨0, Nat.zero_le _, rfl, rfl⟩
 case round =>
  obtain ⟨k, hk, rfl, rfl⟩ := hrel
  have hle := flen_le l k
  by_cases hlt : k < l.length
  ·have hkz : (k : Int) < (l.length : Int) := by omega
   obtain ⟨b, o, A', c', rfl, hb, hcell, hE⟩ := hs.code hlt
   have hle1 := flen_le l (k + 1)
   have hx := flen_take hlt
   have hx0 : ¬ ((flen (l.take k) : Int) + (l[k].length : Int) < 0) := by omega
   have hxw : wrap64 ((flen (l.take k) : Int) + (l[k].length : Int)) = (flen (l.take k) : Int) + (l[k].length : Int) := by unfold wrap64; omega
   have hxz := hide (show (flen (l.take k) : Int) + (l[k].length : Int) = (flen (l.take (k + 1)) : Int) from by omega)
   replace hx := hide hx
   clear hE hs
   go_wp2
   go_round
   case rel => exact ⟨k + 1, by omega, by go_num, by rw [hxw, hxz.out]⟩
   case measure => simp [intOf]; omega
  ·have hke : k = l.length := by omega
   subst hke
   rw [List.take_length]
   rw [List.take_length] at hle
   go_wp2_with (go_at_call 129; refine hgr.out.mono ?_; rintro e w1 ⟨A1, cp1, rfl, hN1, hb1⟩)
   go_loopw [6, 8, 27] (fun v _ i wr => ∃ (j : Nat) (B : Option Addr) (cp : Nat), j ≤ l.length ∧ i = .int .i64 j ∧ v = .slice B (flen (l.take j)) cp ∧ Hid (NdS wr w.heap.size (.slice B (flen (l.take j)) cp) (l.take j).flatten) ∧ Hid (Below w.heap.size w wr)) (fun _ _ i _ => l.length - (intOf i).toNat)
   case atStart => exact ⟨0, A1, cp1, Nat.zero_le _, rfl, rfl, hide hN1, hide hb1⟩
   case round =>
    obtain ⟨j, B, cp, hj, rfl, rfl, hN, hG⟩ := hrel
    have hzr := hG.out.size
    by_cases hlt2 : j < l.length
    ·have hjz : (j : Int) < (l.length : Int) := by omega
     obtain ⟨b, o, A', c', rfl, hb, hcell, hE⟩ := (hs.below sta_cd hG.out).code hlt2
     have hle1 := flen_le l (j + 1)
     have hx := flen_take hlt2
     have hpos := hne'.out l[j] (List.getElem_mem hlt2)
     obtain ⟨v', w', hr, hI', hB'⟩ := append_ns (c := c') hE hpos hN.out hzr (by have : (l.take j).flatten.length = flen (l.take j) := rfl; unfold bigI; omega)
     have hI2 := hI'.cast (flat_take hlt2).symm
     obtain ⟨Au, cu, rfl⟩ := hI2.form
     have ef : (l.take (j + 1)).flatten.length = flen (l.take (j + 1)) := rfl
     rw [ef] at hr hI2
     have hN' := hide (hG.out.trans hB')
     replace hI2 := hide hI2
     have hb' : b < wr.heap.size := Nat.lt_of_lt_of_le hb hzr
     replace hx := hide hx
     clear hI' hB' hE ef hs
     go_wp2
     go_roundw
     case rel => exact ⟨j + 1, Au, cu, by omega, by go_num, rfl, hI2, hN'⟩
     case measure => simp [intOf]; omega
    ·have hje : j = l.length := by omega
     subst hje
     rw [List.take_length] at hN
     rw [List.take_length]
     go_wp2
     go_ret
     exact ⟨_, _, rfl, hN.out, hG.out⟩
end Go.Proofs.YtmfpbahifhndjaaGreat
/-! Layer 10: joined, turned. -/
namespace Go.Proofs.YtmfpbahifhndjaaGreat
open Go.RowKit
attribute [local go_sem ↓] app_eq
theorem NdS.form_at {w : World} {base k : Nat} {v : Value} {l : List Nd} (h : NdS w base v l) (e : l.length = k) : ∃ A cap, v = .slice A k cap := by
 subst e; exact h.form
theorem heldB {n : Nat} {wz W : World} (h : Below n wz W) : Below n wz W ∧ ∀ b o, b < n → W.cell? ⟨b, o, none⟩ = wz.cell? ⟨b, o, none⟩ := ⟨h, (bcell' h).1⟩
/-- A node that was laid lies there still. -/
theorem node_lies {W w3 : World} {n : Nd} (hn : okN n) (hb : Below (W.alloc (.cells (ndC n).toArray 79)).heap.size (W.alloc (.cells (ndC n).toArray 79)) w3) : Sl 6 rNd w3 w3.heap.size (some ⟨W.heap.size, 0, none⟩) [n] := by
 have hs := hb.size
 simp at hs
 refine ⟨by simp [maxLen], fun i x hx => ?_⟩
 have hi : i = 0 := by
  have := (List.getElem?_eq_some_iff.1 hx).1
  simpa using this
 subst hi
 simp at hx
 subst hx
 refine ⟨W.heap.size, 0, ndC n, rfl, by omega, rfl, fun j u hu => ?_, rfl, hn⟩
 have h1 := hb.cell (p := ⟨W.heap.size, 0 + 0 * 6 + j, none⟩) (by simp)
 rw [h1]
 have h2 : (W.alloc (.cells (ndC n).toArray 79)).cell? ⟨W.heap.size, j, none⟩ = (ndC n).toArray[j]? := World.cell?_alloc_at _ _ _ _ rfl
 simpa using h2.trans (by simpa using hu)
theorem app_after {w3 W : World} {n : Nd} {A : Option Addr} {k c base : Nat} {l : List Nd} (hn : okN n) (hN : NdS w3 base (.slice A k c) l) (hz : l.length ≤ 1000000) (hB : base ≤ W.heap.size) (hb : Below W.heap.size W w3) :
  ∃ v' w', (AppG #[35, 35] 35 #[.slice A k c, .slice (some ⟨w3.heap.size, 0, none⟩) 1 1]).run Tryz.prog (w3.alloc (.cells #[.int .u8 n.op, .int .i64 n.w, .int .i64 n.a, .int .i64 n.b, .int .u64 n.hi, .int .u64 n.lo] 79)) = .ok v' w' ∧ NdS w' base v' (l ++ [n]) ∧ Below base W w' := by
 obtain ⟨v', w', hr, hI, hB'⟩ := append_n n hn hN (Nat.le_trans hB hb.size) (by unfold bigI; omega)
 exact ⟨v', w', hr, hI, (hb.mono hB).trans hB'⟩
theorem app_ahead {w3 W : World} {n : Nd} {A : Option Addr} {k c base : Nat} {l : List Nd} (hn : okN n) (hN : NdS w3 base (.slice A k c) l) (hz : l.length ≤ 1000000) (hB : base ≤ W.heap.size)
  (hb : Below (W.alloc (.cells #[.int .u8 n.op, .int .i64 n.w, .int .i64 n.a, .int .i64 n.b, .int .u64 n.hi, .int .u64 n.lo] 79)).heap.size (W.alloc (.cells #[.int .u8 n.op, .int .i64 n.w, .int .i64 n.a, .int .i64 n.b, .int .u64 n.hi, .int .u64 n.lo] 79)) w3) :
  ∃ v' w', (AppG #[35, 35] 35 #[.slice A k c, .slice (some ⟨W.heap.size, 0, none⟩) 1 1]).run Tryz.prog w3 = .ok v' w' ∧ NdS w' base v' (l ++ [n]) ∧ Below base W w' := by
 have hs := hb.size
 simp at hs
 obtain ⟨v', w', hr, hI, hB'⟩ := append_ns (c := 1) (node_lies hn hb) (by simp) hN (by omega) (by unfold bigI; simp; omega)
 exact ⟨v', w', hr, hI, (((Below.refl _ _).alloc (Nat.le_refl _) _).trans (hb.mono (by simp))).mono hB |>.trans hB'⟩
set_option maxRecDepth 100000 in
set_option maxHeartbeats 8000000 in
theorem joined_any (n : Nd) (hn : okN n) (l : List (List Nd)) (A : Option Addr) (cap : Nat) (w : World) (hs : Sl 1 rCd w w.heap.size A l) (hne : ∀ x ∈ l, 0 < x.length) (h0 : 0 < flen l) (hl : flen l ≤ 1000000) :
  Calls Tryz.prog 84 #[.agg #[.int .u8 n.op, .int .i64 n.w, .int .i64 n.a, .int .i64 n.b, .int .u64 n.hi, .int .u64 n.lo], .slice A l.length cap] w fun e w' => ∃ A' cap', e = .returned (.slice A' (flen l + 1) cap') ∧ NdS w' w.heap.size (.slice A' (flen l + 1) cap') (l.flatten ++ [n]) ∧ Below w.heap.size w w' := by
 have hlen := hs.len
 obtain ⟨wz, hwz, hsz, hbz, hcz, -⟩ := box1 w #[.int .u8 n.op, .int .i64 n.w, .int .i64 n.a, .int .i64 n.b, .int .u64 n.hi, .int .u64 n.lo] 79
 have z0 : wz.cell? ⟨w.heap.size, 0, none⟩ = some (.int .u8 n.op) := hcz 0
 have z1 : wz.cell? ⟨w.heap.size, 1, none⟩ = some (.int .i64 n.w) := hcz 1
 have z2 : wz.cell? ⟨w.heap.size, 2, none⟩ = some (.int .i64 n.a) := hcz 2
 have z3 : wz.cell? ⟨w.heap.size, 3, none⟩ = some (.int .i64 n.b) := hcz 3
 have z4 : wz.cell? ⟨w.heap.size, 4, none⟩ = some (.int .u64 n.hi) := hcz 4
 have z5 : wz.cell? ⟨w.heap.size, 5, none⟩ = some (.int .u64 n.lo) := hcz 5
 have hl1 : w.heap.size < wz.heap.size := by omega
 have hle : w.heap.size ≤ wz.heap.size := by omega
 have hS := hs.below sta_cd hbz
 have hfl : l.flatten.length ≤ 1000000 := hl
 have hC := fun (W : World) (hW : Below wz.heap.size wz W) => (concat_any l A cap W (((hS.more sta_cd hle).below sta_cd hW).more sta_cd hW.size) hne h0 (by unfold bigI; omega))
 have hC1 : Calls Tryz.prog 113 #[.slice A l.length cap] (wz.alloc (.cells #[.int .u8 n.op, .int .i64 n.w, .int .i64 n.a, .int .i64 n.b, .int .u64 n.hi, .int .u64 n.lo] 79)).drew fun e w3 => ∃ A' cap' v' w', e = .returned (.slice A' (flen l) cap') ∧ (AppG #[35, 35] 35 #[.slice A' (flen l) cap', .slice (some ⟨wz.heap.size, 0, none⟩) 1 1]).run Tryz.prog w3 = .ok v' w' ∧ Hid (NdS w' wz.heap.size v' (l.flatten ++ [n])) ∧ Hid (Below wz.heap.size wz w') ∧ Below wz.heap.size wz w3 := by
  refine (hC _ ((Below.refl _ _).alloc (Nat.le_refl _) _).drew).mono ?_
  rintro e w3 ⟨A', c', rfl, h2, h3⟩
  obtain ⟨v', w', hr, hI, hB⟩ := app_ahead (W := wz) (base := wz.heap.size) hn (h2.mono (Nat.le_trans (Nat.le_succ _) (by simp))) hfl (Nat.le_refl _) ((Below.refl _ _).drew.trans h3)
  exact ⟨A', c', v', w', rfl, hr, hide hI, hide hB, ((Below.refl _ _).alloc (Nat.le_refl _) _).drew.trans (h3.mono (Nat.le_trans (Nat.le_succ _) (by simp)))⟩
 have hC2 : Calls Tryz.prog 113 #[.slice A l.length cap] wz.drew fun e w3 => ∃ A' cap' v' w', e = .returned (.slice A' (flen l) cap') ∧ (AppG #[35, 35] 35 #[.slice A' (flen l) cap', .slice (some ⟨w3.heap.size, 0, none⟩) 1 1]).run Tryz.prog (w3.alloc (.cells #[.int .u8 n.op, .int .i64 n.w, .int .i64 n.a, .int .i64 n.b, .int .u64 n.hi, .int .u64 n.lo] 79)) = .ok v' w' ∧ Hid (NdS w' wz.heap.size v' (l.flatten ++ [n])) ∧ Hid (Below wz.heap.size wz w') ∧ Below wz.heap.size wz w3 := by
  refine (hC _ (Below.refl _ _).drew).mono ?_
  rintro e w3 ⟨A', c', rfl, h2, h3⟩
  obtain ⟨v', w', hr, hI, hB⟩ := app_after (W := wz) hn (h2.mono (base' := wz.heap.size) (Nat.le_refl _)) hfl (Nat.le_refl _) ((Below.refl _ _).drew.trans h3)
  exact ⟨A', c', v', w', rfl, hr, hide hI, hide hB, (Below.refl _ _).drew.trans h3⟩
 replace hC1 := hide hC1
 replace hC2 := hide hC2
 replace hfl := hide hfl
 replace hsz := hide hsz
 have hbz' := hide hbz
 clear hs hS hcz hbz hne hC
 go_enter Tryz.func84, Tryz.ntmps84
 go_upto_region 1 with fail
 go_region_held3 (fun w' => Below wz.heap.size wz w' ∧ ∀ b o, b < wz.heap.size → w'.cell? ⟨b, o, none⟩ = wz.cell? ⟨b, o, none⟩) (first | exact heldB (Below.refl _ _).drew | exact heldB ((Below.refl _ _).alloc (Nat.le_refl _) _).drew | exact heldB hB.out | exact heldB hb4 | exact heldB (hb4.alloc hb4.size _))
  ((go_at_call 113; (first | (with_reducible refine hC1.out.mono ?_) | (with_reducible refine hC2.out.mono ?_)); rintro e w3 ⟨A1, cp1, v', w', rfl, hr, hI, hB, hb4⟩))
 all_goals
  obtain ⟨Au, cu, rfl⟩ := hI.out.form_at (show (l.flatten ++ [n]).length = flen l + 1 from by rw [List.length_append]; rfl)
  go_wp2
  go_ret
  exact ⟨_, _, rfl, hI.out.mono (Nat.le_of_lt hl1), hbz'.out.trans (hB.out.mono (Nat.le_of_lt hl1))⟩
def ndNot : Nd := ⟨7, 1, 0, 0, 0, 0⟩
theorem ok_not : okN ndNot := ⟨⟨by decide, by decide⟩, ⟨by decide, by decide⟩, ⟨by decide, by decide⟩⟩
set_option maxRecDepth 100000 in
set_option maxHeartbeats 8000000 in
theorem turned_any (c : List Nd) (A : Option Addr) (cap : Nat) (w : World) (hs : Sl 6 rNd w w.heap.size A c) (hne : 0 < c.length) (hl : c.length ≤ 1000000) :
  Calls Tryz.prog 85 #[.slice A c.length cap] w fun e w' => ∃ A' cap', e = .returned (.slice A' (c.length + 1) cap') ∧ NdS w' w.heap.size (.slice A' (c.length + 1) cap') (c ++ [ndNot]) ∧ Below w.heap.size w w' := by
 have hlen := hs.len
 obtain ⟨wz, hwz, hsz, hbz, hcz, -⟩ := box1 w #[.slice A c.length cap] 35
 have hP : Sl 1 rCd wz wz.heap.size (some ⟨w.heap.size, 0, none⟩) [c] := by
  refine ⟨by simp [maxLen], fun i x hx => ?_⟩
  have hi : i = 0 := by simpa using (List.getElem?_eq_some_iff.1 hx).1
  subst hi
  simp at hx
  subst hx
  refine ⟨w.heap.size, 0, [.slice A c.length cap], rfl, by omega, rfl, fun j u hu => ?_, A, cap, rfl, (hs.below sta_nd hbz).more sta_nd hbz.size⟩
  have := hcz (0 + 0 * 1 + j)
  simp only [Nat.zero_mul, Nat.zero_add] at this ⊢
  rw [this]
  simpa using hu
 have hX : Calls Tryz.prog 84 #[.agg #[.int .u8 7, .int .i64 1, .int .i64 0, .int .i64 0, .int .u64 0, .int .u64 0], .slice (some ⟨w.heap.size, 0, none⟩) 1 1] wz fun e w' => ∃ A' cap', e = .returned (.slice A' (flen [c] + 1) cap') ∧ NdS w' wz.heap.size (.slice A' (flen [c] + 1) cap') ([c].flatten ++ [ndNot]) ∧ Below wz.heap.size wz w' := joined_any ndNot ok_not [c] (some ⟨w.heap.size, 0, none⟩) 1 wz hP (by simpa using hne) (by unfold flen; simpa using hne) (by unfold flen; simpa using hl)
 rw [show flen [c] = c.length from by unfold flen; simp, show [c].flatten = c from by simp] at hX
 have hsz' : w.heap.size ≤ wz.heap.size := hbz.size
 replace hX := hide hX
 replace hbz := hide hbz
 go_enter Tryz.func85, Tryz.ntmps85
 go_wp2_with (go_at_call 84; refine hX.out.mono ?_; rintro e w3 ⟨A1, cp1, rfl, hN, hb3⟩)
 go_ret
 exact ⟨_, _, rfl, hN.mono hsz', hbz.out.trans (hb3.mono hsz')⟩
end Go.Proofs.YtmfpbahifhndjaaGreat

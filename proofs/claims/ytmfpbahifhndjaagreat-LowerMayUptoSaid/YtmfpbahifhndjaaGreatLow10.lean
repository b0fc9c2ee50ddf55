import Derived.Test.YtmfpbahifhndjaaGreatLow09
import Derived.Laws.OwnMore
import Derived.WalkSmall
set_option linter.all false
/-! Layer 1: Fits at any width. -/
namespace Go.Proofs.YtmfpbahifhndjaaGreat
open Go.RowKit
def clN (z : Int) : Nat := if z < 1 then 0 else (min z 128).toNat
theorem clN_le (z : Int) : clN z ≤ 128 := by unfold clN; split <;> omega
theorem clN_lt (z : Int) (k : Nat) (hk : k < 128) : (k : Int) < z ↔ k < clN z := by unfold clN; split <;> omega
theorem u64_lt {hi lo : Int} (h : u64 hi ∧ u64 lo) : 0 ≤ numV (0, hi, lo) ∧ numV (0, hi, lo) < 2 ^ 128 := by
 obtain ⟨⟨a0, a1⟩, b0, b1⟩ := h
 unfold numV
 simp only
 have : (2 : Int) ^ 128 = 18446744073709551616 * 18446744073709551616 := by decide
 omega
theorem fitN_lo {z hi lo : Int} (h : u64 hi ∧ u64 lo) (hz : z < 1) : fitN z hi lo = (decide (hi = 0) && decide (lo = 0)) := by
 obtain ⟨⟨a0, a1⟩, b0, b1⟩ := h
 unfold fitN fitsB numV
 rw [show z.toNat = 0 by omega]
 rw [Bool.eq_iff_iff]
 simp only [Bool.and_eq_true, decide_eq_true_eq]
 omega
theorem fitN_hi {z hi lo : Int} (h : u64 hi ∧ u64 lo) (hz : 128 ≤ z) : fitN z hi lo = true := by
 unfold fitN fitsB
 have h1 := (u64_lt h).2
 have h2 : (2 : Int) ^ 128 ≤ 2 ^ z.toNat := by
  have := Nat.pow_le_pow_right (n := 2) (by omega) (show 128 ≤ z.toNat by omega)
  have h3 := Int.ofNat_le.2 this
  rw [Int.natCast_pow, Int.natCast_pow] at h3
  exact h3
 rw [decide_eq_true_eq]; omega
set_option maxHeartbeats 1000000 in
theorem mask_zero (z : Int) (w : World) (hz : z < 1) : Calls Tryz.prog 93 #[.int .i64 z] w fun e w' => e = .returned (.agg #[.int .u64 0, .int .u64 0]) ∧ Below w.heap.size w w' := by
 obtain ⟨wa, hwa, hsa, hba, hca, hfa⟩ := box1 w #[.int .u64 0, .int .u64 0] 60
 obtain ⟨wb, hwb, hsb, hbb, hcb, -⟩ := box1 wa #[.int .u64 18446744073709551615, .int .u64 18446744073709551615] 60
 have hw := hba.trans (hbb.mono (by omega))
 have x0 : wb.cell? ⟨w.heap.size, 0, none⟩ = some (.int .u64 0) := (hbb.cell (p := ⟨w.heap.size, 0, none⟩) (by show w.heap.size < _; omega)).trans (hca 0)
 have x1 : wb.cell? ⟨w.heap.size, 1, none⟩ = some (.int .u64 0) := (hbb.cell (p := ⟨w.heap.size, 1, none⟩) (by show w.heap.size < _; omega)).trans (hca 1)
 have f0 : ∀ i, wb.frozen? ⟨w.heap.size, i, none⟩ = false := fun i => (hbb.frozen (p := ⟨w.heap.size, i, none⟩) (by show w.heap.size < _; omega)).trans (hfa i)
 simp only [hsa] at hcb
 have y0 : wb.cell? ⟨w.heap.size + 1, 0, none⟩ = some (.int .u64 18446744073709551615) := hcb 0
 have y1 : wb.cell? ⟨w.heap.size + 1, 1, none⟩ = some (.int .u64 18446744073709551615) := hcb 1
 have hzz : w.heap.size < wb.heap.size := by omega
 replace hw := hide hw
 replace hsb := hide hsb
 clear hca hcb hba hbb hfa
 go_enter Tryz.func93, Tryz.ntmps93
 go_wp2
 refine bodyPost_ret (v := .agg #[.int .u64 0, .int .u64 0]) (by simp [results, Tryz.results93, go_sem, hzz, x0, x1]) rfl ⟨rfl, ?_⟩
 exact ((hw.out).setCell (by simp) _).setCell (by simp) _
theorem mask_all (z : Int) (w : World) : Calls Tryz.prog 93 #[.int .i64 z] w fun e w' => e = .returned (.agg #[.int .u64 (maskH (clN z)), .int .u64 (maskL (clN z))]) ∧ Below w.heap.size w w' := by
 by_cases hz : z < 1
 ·have : clN z = 0 := by simp [clN, hz]
  rw [this]
  exact mask_zero z w hz
 ·refine mask_of z (clN z) w ?_ (clN_le z) ?_ hz
  ·unfold clN; rw [if_neg hz]; omega
  ·unfold clN; rw [if_neg hz]; omega
theorem fits_all (hi lo z : Int) (W : World) (h : u64 hi ∧ u64 lo) : Calls Tryz.prog 46 #[.agg #[.int .u64 hi, .int .u64 lo], .int .i64 z] W fun e w' => e = .returned (.bool (fitN z hi lo)) ∧ Below W.heap.size W w' := by
 have hF := fits_of hi lo z _ _ W fun W => cut_of hi lo z _ _ W fun W => mask_all z W
 have e : (andI hi (maskH (clN z)) == hi && andI lo (maskL (clN z)) == lo) = fitN z hi lo := by
  by_cases hz : z < 1
  ·have hc : clN z = 0 := by simp [clN, hz]
   rw [hc, fitN_lo h hz]
   have e1 : ∀ x : Int, u64 x → andI x 0 = 0 := fun x hx => by have := and_mask x 0 hx.1 hx.2 (by omega); simpa using this
   simp only [maskH, maskL, Nat.zero_le, if_true, Int.pow_zero]
   rw [show (1 : Int) - 1 = 0 from rfl, e1 hi h.1, e1 lo h.2, Bool.eq_iff_iff]
   simp only [Bool.and_eq_true, beq_iff_eq, decide_eq_true_eq]
   constructor <;> rintro ⟨a, b⟩ <;> exact ⟨a.symm, b.symm⟩
  ·have h0 : okLt (0, hi, lo) := ⟨by simp [i64], h.1, h.2⟩
   have h1 : 1 ≤ clN z := by unfold clN; rw [if_neg hz]; omega
   rw [fits_eq (0, hi, lo) (clN z) h0 h1 (clN_le z)]
   by_cases hz2 : z < 128
   ·have : (clN z : Int) = z := by unfold clN; rw [if_neg hz]; omega
    rw [this]; rfl
   ·have : (clN z : Int) = 128 := by unfold clN; rw [if_neg hz]; omega
    rw [fitN_hi h (by omega), this]
    exact fitN_hi (z := 128) h (by omega)
 rw [← e]; exact hF
theorem fits01_all (hi lo z : Int) (W : World) (h : u64 hi ∧ u64 lo) : Calls Tryz.prog 48 #[.agg #[.int .u64 hi, .int .u64 lo], .int .i64 z] W fun e w' => e = .returned (.bool (fitN z hi lo)) ∧ Below W.heap.size W w' := by
 have hF := fits01_of hi lo z _ _ W fun W => cut01_of hi lo z (clN z) W h.1 h.2 fun k hk => clN_lt z k hk
 have e : (cutH hi (clN z) == hi && cutL lo (clN z) == lo) = fitN z hi lo := by
  by_cases hz : z < 1
  ·have hc : clN z = 0 := by simp [clN, hz]
   rw [hc, fitN_lo h hz]
   unfold cutH cutL
   rw [show (0 : Nat) - 64 = 0 from rfl, show min 0 64 = 0 from rfl, Int.pow_zero, Int.emod_one, Int.emod_one, Bool.eq_iff_iff]
   simp only [Bool.and_eq_true, beq_iff_eq, decide_eq_true_eq]
   constructor <;> rintro ⟨a, b⟩ <;> exact ⟨a.symm, b.symm⟩
  ·have h0 : okLt (0, hi, lo) := ⟨by simp [i64], h.1, h.2⟩
   have h1 : 1 ≤ clN z := by unfold clN; rw [if_neg hz]; omega
   rw [fits01_eq (0, hi, lo) (clN z) h0 h1 (clN_le z)]
   by_cases hz2 : z < 128
   ·have : (clN z : Int) = z := by unfold clN; rw [if_neg hz]; omega
    rw [this]; rfl
   ·have : (clN z : Int) = 128 := by unfold clN; rw [if_neg hz]; omega
    rw [fitN_hi h (by omega), this]
    exact fitN_hi (z := 128) h (by omega)
 rw [← e]; exact hF
end Go.Proofs.YtmfpbahifhndjaaGreat
/-! Layer 10: the width of a node that takes nothing. -/
namespace Go.Proofs.YtmfpbahifhndjaaGreat
open Go.RowKit
set_option maxRecDepth 100000 in
set_option maxHeartbeats 4000000 in
theorem given_any (A1 A2 A3 A4 A5 A6 A7 A8 A9 A10 A11 A12 : Option Addr) (p : Lp) (c1 c2 c3 c4 c5 c6 c7 c8 c9 c10 c11 c12 : Nat) (act : Int) (n : Nd) (w : World) (h : LpS w w.heap.size A1 A2 A3 A4 A5 A6 A7 A8 A9 A10 A11 A12 p) (hn : u64 n.hi ∧ u64 n.lo) : Calls Tryz.prog 51 #[.agg #[.slice A1 p.heads.length c1, .slice A2 p.metas.length c2, .slice A3 p.steps.length c3, .slice A4 p.acts.length c4, .slice A5 p.tabs.length c5, .slice A6 p.control.length c6, .slice A7 p.emit.length c7, .slice A8 p.nh.length c8, .slice A9 p.nf.length c9, .slice A10 p.nm.length c10, .slice A11 p.na.length c11, .slice A12 p.nt.length c12], .int .i64 act, .agg #[.int .u8 n.op, .int .i64 n.w, .int .i64 n.a, .int .i64 n.b, .int .u64 n.hi, .int .u64 n.lo]] w fun e w' => e = .returned (.int .i64 (givL p act n)) ∧ Below w.heap.size w w' := by
 obtain ⟨op, nw, a, b, hi, lo⟩ := n
 simp only at hn ⊢
 obtain ⟨wz, hwz, hsz, hbz, hcz, -⟩ := box1 w #[.slice A1 p.heads.length c1, .slice A2 p.metas.length c2, .slice A3 p.steps.length c3, .slice A4 p.acts.length c4, .slice A5 p.tabs.length c5, .slice A6 p.control.length c6, .slice A7 p.emit.length c7, .slice A8 p.nh.length c8, .slice A9 p.nf.length c9, .slice A10 p.nm.length c10, .slice A11 p.na.length c11, .slice A12 p.nt.length c12] 33
 obtain ⟨wa, hwa, hsa, hba, hca, -⟩ := box1 wz #[.int .u8 op, .int .i64 nw, .int .i64 a, .int .i64 b, .int .u64 hi, .int .u64 lo] 79
 have y0 := (hba.cell (p := ⟨w.heap.size, 0, none⟩) (by show w.heap.size < _; omega)).trans (hcz 0)
 have y1 := (hba.cell (p := ⟨w.heap.size, 1, none⟩) (by show w.heap.size < _; omega)).trans (hcz 1)
 have y3 := (hba.cell (p := ⟨w.heap.size, 3, none⟩) (by show w.heap.size < _; omega)).trans (hcz 3)
 simp only [List.getElem?_toArray, List.getElem?_cons_zero, List.getElem?_cons_succ] at y0 y1 y3
 simp only [hsz] at hca
 have x0 : wa.cell? ⟨w.heap.size + 1, 0, none⟩ = some (.int .u8 op) := hca 0
 have x1 : wa.cell? ⟨w.heap.size + 1, 1, none⟩ = some (.int .i64 nw) := hca 1
 have x2 : wa.cell? ⟨w.heap.size + 1, 2, none⟩ = some (.int .i64 a) := hca 2
 have x3 : wa.cell? ⟨w.heap.size + 1, 3, none⟩ = some (.int .i64 b) := hca 3
 have x4 : wa.cell? ⟨w.heap.size + 1, 4, none⟩ = some (.int .u64 hi) := hca 4
 have x5 : wa.cell? ⟨w.heap.size + 1, 5, none⟩ = some (.int .u64 lo) := hca 5
 have hl1 : w.heap.size < wa.heap.size := by omega
 have hl2 : w.heap.size + 1 < wa.heap.size := by omega
 have hw : Below w.heap.size w wa := hbz.trans (hba.mono (by omega))
 have hS := (h.below hw).more hw.size
 have hA1 := hide hS.heads
 have hA2 := hide hS.metas
 have hA4 := hide hS.acts
 replace hw := hide hw
 replace hsa := hide hsa
 clear hca hcz hba hbz h hS
 have hv := hide (show givL p act ⟨op, nw, a, b, hi, lo⟩ = if op = 1 then (if a = 0 ∧ fitN nw hi lo = true then nw else 0) else givP p act op a b from rfl)
 go_enter Tryz.func51, Tryz.ntmps51
 by_cases o1 : op = 1
 ·subst o1
  have hF := fun W => fits_all hi lo nw W hn
  generalize fitN nw hi lo = F at hF hv
  replace hF := hide hF
  by_cases ha : a = 0
  ·subst ha
   cases F
   all_goals
    go_wp2_with (go_at_call 46; refine (hF.out _).mono ?_; rintro e w3 ⟨rfl, hb3⟩; have kb3 := bcell hb3)
    go_ret
    exact ⟨ret_int (by rw [hv.out]; rfl), hw.out.trans (hb3.mono hw.out.size)⟩
  ·go_wp2
   go_ret
   exact ⟨ret_int (by rw [hv.out]; simp [ha]), hw.out⟩
 ·by_cases o2 : op = 2
  ·subst o2
   go_wp2_with (first | (go_at_call 86; refine (atL_any _ _ _ _ _ hA1.out).mono ?_; rintro e w' ⟨A', c', rfl, hs, rfl⟩) | (go_at_call 87; refine (atI_any _ _ _ _ _ hs).mono ?_; rintro e w' ⟨rfl, rfl⟩))
   go_ret
   exact ⟨ret_int (by rw [hv.out]; rfl), hw.out⟩
  ·by_cases o3 : op = 3
   ·subst o3
    go_wp2_with (go_at_call 87; refine (atI_any _ _ _ _ _ hA2.out).mono ?_; rintro e w' ⟨rfl, rfl⟩)
    go_ret
    exact ⟨ret_int (by rw [hv.out]; rfl), hw.out⟩
   ·by_cases o4 : op = 4
    ·subst o4
     go_wp2_with (first | (go_at_call 43; refine (atA_any _ _ _ _ _ hA4.out).mono ?_; rintro e w3 ⟨A', c', A'', n'', c'', rfl, hs, hb3⟩; have kb3 := bcell hb3; have hq := Nat.lt_of_lt_of_le hl2 hb3.size; have hs3 := hide ((hs.below sta_int hb3).more sta_int hb3.size)) | (go_at_call 87; refine (atI_any _ _ _ _ _ ((hs3.out.alloc sta_int (Nat.le_refl _) _).more sta_int (by simp))).mono ?_; rintro e w' ⟨rfl, rfl⟩))
     go_ret
     exact ⟨ret_int (by rw [hv.out]; rfl), hw.out.trans ((hb3.mono hw.out.size).alloc (Nat.le_trans hw.out.size hb3.size) _)⟩
    ·by_cases o5 : op = 5
     ·subst o5
      by_cases ha : a = 0
      ·subst ha
       go_wp2
       go_ret
       exact ⟨ret_int (by rw [hv.out]; rfl), hw.out⟩
      ·go_wp2
       go_ret
       exact ⟨ret_int (by rw [hv.out]; simp [givP, ha]), hw.out⟩
     ·by_cases o6 : op = 6
      ·subst o6
       cases hz : inB p.heads.length a
       all_goals
        go_wp2_with (go_at_call 86; refine (atL_any _ _ _ _ _ hA1.out).mono ?_; rintro e w' ⟨A', c', rfl, hs, rfl⟩; rw [hz])
        go_ret
        exact ⟨ret_int (by rw [hv.out]; simp [givP, hz]), hw.out⟩
      ·go_wp2
       go_ret
       exact ⟨ret_int (by rw [hv.out]; simp [givP, o1, o2, o3, o4, o5, o6]), hw.out⟩
end Go.Proofs.YtmfpbahifhndjaaGreat
/-! Layer 10: a stack of widths. -/
namespace Go.Proofs.YtmfpbahifhndjaaGreat
open Go.RowKit
/-- append, kept from being opened. -/
def AppG (ts : Array TypeId) (ty : TypeId) (args : Array Value) : Sem Value := Builtin.append_ ts ty args
theorem app_eq (ts : Array TypeId) (ty : TypeId) (args : Array Value) : Builtin.append_ ts ty args = AppG ts ty args := rfl
theorem int_info : (Tryz.prog.info? 3).map (fun i => (i.zero, i.size, i.bytes)) = some (some (.int .i64 0), 1, 8) := by kernel_rfl
theorem own_belowR {w w' : World} {base B : Nat} {e : TypeId} {size : Nat} {v : Value} {n : Nat} {xs : List Value} (h : w.ownsRow base e size v n xs) (hb : Below B w w') (hB : w.heap.size ≤ B) : w'.ownsRow base e size v n xs := by
 refine ⟨h.1, ?_⟩
 rcases h.2 with h2 | ⟨g, cap, cur, rfl, hg, hh, r⟩
 ·exact .inl h2
 ·have := (h.lt g rfl).2
  exact .inr ⟨g, cap, cur, rfl, hg, (hb.block g (by omega)).trans hh, r⟩
def bigI : Nat := 100000000
/-- Numbers in a row of the call's own. -/
def InS (w : World) (base : Nat) (v : Value) (l : List Int) : Prop := w.ownsRow base 3 1 v l.length (l.map (Value.int .i64))
theorem InS.nil_ (w : World) (base : Nat) : InS w base (.slice none 0 0) [] := World.ownsRow_nil _ _ _ _
theorem InS.below {w w' : World} {base C : Nat} {v : Value} {l : List Int} (h : InS w base v l) (hb : Below C w w') (hC : w.heap.size ≤ C) : InS w' base v l := own_belowR h hb hC
theorem InS.mono {w : World} {base base' : Nat} {v : Value} {l : List Int} (h : InS w base v l) (hb : base' ≤ base) : InS w base' v l := by
 refine ⟨h.1, ?_⟩
 rcases h.2 with h2 | ⟨g, cap, cur, rfl, hg, r⟩
 ·exact .inl h2
 ·exact .inr ⟨g, cap, cur, rfl, by omega, r⟩
theorem InS.form {w : World} {base : Nat} {v : Value} {l : List Int} (h : InS w base v l) : ∃ A cap, v = .slice A l.length cap := by
 rcases h.2 with ⟨rfl, hz⟩ | ⟨g, cap, cur, rfl, _⟩
 ·exact ⟨none, 0, by rw [hz]⟩
 ·exact ⟨_, _, rfl⟩
theorem ints_flat (l : List Int) : l.map (Value.int .i64) = l.flatMap fun x => [Value.int .i64 x] := by induction l <;> simp_all
theorem InS.sl {w : World} {base : Nat} {v : Value} {l : List Int} (h : InS w base v l) : ∃ A cap, v = .slice A l.length cap ∧ Sl 1 rInt w w.heap.size A l := by
 refine own_sl (f := fun x => [Value.int .i64 x]) (fun _ => rfl) (fun _ _ => rfl) (base := base) (e := 3) ?_
 rw [← ints_flat]; exact h
theorem ints_one (xs : List Int) : ∀ u ∈ xs.map (Value.int .i64), u.oneCell' = true := fun u hu => by
 obtain ⟨x, -, rfl⟩ := List.mem_map.1 hu; rfl
/-- append of a number. -/
theorem append_i {W : World} {base : Nat} {v : Value} {l : List Int} (x : Int) (hd : InS W base v l) (hb : base ≤ W.heap.size) (hz : l.length ≤ bigI) :
  ∃ v' w', (AppG #[23, 23] 23 #[v, .slice (some ⟨W.heap.size, 0, none⟩) 1 1]).run Tryz.prog (W.alloc (.cells #[.int .i64 x] 3)) = .ok v' w' ∧ InS w' base v' (l ++ [x]) ∧ Below base W w' := by
 unfold bigI at hz
 obtain ⟨ii, hii, hzi0, hzi1, hzi2⟩ := info_parts int_info
 obtain ⟨v', w', hrun, h2, h3, _, _⟩ := run_append_own_at (P := Tryz.prog) (W.alloc (.cells #[.int .i64 x] 3)) base 23 23 3 ii (.int .i64 0) 1 8 Tryz.underlying23 hii hzi0 hzi1 hzi2 rfl (by omega) v l.length _ (World.ownsRow.alloc hd _) ⟨W.heap.size, 0, none⟩ 1 1 [.int .i64 x] rfl (World.news_of_block (cs := #[.int .i64 x]) (t := 3) (fr := (0, 0)) (heap_alloc_new W _)) (by simp [Value.oneCell']) (by simp [maxLen]; omega) (by omega) (by simp; omega)
 exact ⟨v', w', hrun, by unfold InS; simpa using h2, (((Below.refl _ _).alloc hb _).grown h3 (by simp; omega) (fun g e => (hd.lt g e).1))⟩
/-- A stack: its widths, and whether something was wrong. -/
def Stk (w : World) (g : Nat) (xs : List Int) (b : Bool) : Prop := ∃ v, w.heap[g]? = some (.cells #[v, .bool b] 82 (0, 0)) ∧ InS w (g + 1) v xs
theorem Stk.lt {w : World} {g : Nat} {xs : List Int} {b : Bool} (h : Stk w g xs b) : g < w.heap.size := by
 obtain ⟨v, h, _⟩ := h
 exact (Array.getElem?_eq_some_iff.1 h).1
theorem Stk.below {w w' : World} {g : Nat} {xs : List Int} {b : Bool} (h : Stk w g xs b) (hb : Below w.heap.size w w') : Stk w' g xs b := by
 have hl := h.lt
 obtain ⟨v, h1, h2⟩ := h
 exact ⟨v, (hb.block g hl).trans h1, h2.below hb (Nat.le_refl _)⟩
theorem Stk.cells {w : World} {g : Nat} {xs : List Int} {b : Bool} (h : Stk w g xs b) : ∃ v, w.cell? ⟨g, 0, none⟩ = some v ∧ w.cell? ⟨g, 1, none⟩ = some (.bool b) ∧ w.frozen? ⟨g, 0, none⟩ = false ∧ w.frozen? ⟨g, 1, none⟩ = false ∧ InS w (g + 1) v xs := by
 obtain ⟨v, h1, h2⟩ := h
 exact ⟨v, by simp [World.cell?, h1], by simp [World.cell?, h1], by simp [World.frozen?, h1], by simp [World.frozen?, h1], h2⟩
/-- All is as it was, but for one block. -/
def Gr (g : Nat) (w w' : World) : Prop := w.grownBy w' (some g)
theorem Gr.refl (g : Nat) (w : World) : Gr g w w := ⟨rfl, rfl, rfl, Nat.le_refl _, fun _ _ _ => rfl⟩
theorem Gr.trans {g : Nat} {a b c : World} (h : Gr g a b) (h' : Gr g b c) : Gr g a c := ⟨h'.os.trans h.os, h'.tape.trans h.tape, h'.output.trans h.output, Nat.le_trans h.size h'.size, fun k hk hn => (h'.block k (Nat.lt_of_lt_of_le hk h.size) hn).trans (h.block k hk hn)⟩
theorem Gr.of {g : Nat} {a b : World} (h : Below a.heap.size a b) : Gr g a b := ⟨h.os, h.tape, h.output, h.size, fun k hk _ => h.block k hk⟩
theorem Gr.set (g : Nat) (w : World) (i : Nat) (v : Value) : Gr g w (w.setCell ⟨g, i, none⟩ v) := ⟨rfl, rfl, rfl, by simp, fun k _ hn => Below.heap_setCell w ⟨g, i, none⟩ v k (by show k ≠ g; intro e; subst e; exact hn rfl)⟩
theorem Gr.below {g B : Nat} {a b : World} (h : Gr g a b) (hB : B ≤ g) (hs : B ≤ a.heap.size) : Below B a b := ⟨h.os, h.tape, h.output, h.size, fun k hk => h.block k (Nat.lt_of_lt_of_le hk hs) (by simp; omega)⟩
theorem Gr.cell {g k i : Nat} {a b : World} (h : Gr g a b) (hk : k < a.heap.size) (hn : k ≠ g) : b.cell? ⟨k, i, none⟩ = a.cell? ⟨k, i, none⟩ := World.cell?_of_block (h.block k hk (by simp; exact hn))
theorem heap_set {w : World} {g i : Nat} {v : Value} {cs : Array Value} {t : TypeId} (h : w.heap[g]? = some (.cells cs t (0, 0))) : (w.setCell ⟨g, i, none⟩ v).heap[g]? = some (.cells (cs.setIfInBounds i v) t (0, 0)) := by
 simp [World.setCell, Array.getElem?_modify, h]
theorem InS.set {w : World} {base g i : Nat} {v u : Value} {l : List Int} (h : InS w base v l) (hg : g < base) : InS (w.setCell ⟨g, i, none⟩ u) base v l := by
 refine ⟨h.1, ?_⟩
 rcases h.2 with h2 | ⟨g', cap, cur, rfl, hg', hh, r⟩
 ·exact .inl h2
 ·exact .inr ⟨g', cap, cur, rfl, hg', (Below.heap_setCell w ⟨g, i, none⟩ u g' (by show g' ≠ g; omega)).trans hh, r⟩
/-- A stack whose slice is another one now. -/
theorem Stk.set0 {w w' : World} {g : Nat} {b : Bool} {v u : Value} {l : List Int} (h : w.heap[g]? = some (.cells #[v, .bool b] 82 (0, 0))) (hb : Below (g + 1) w w') (hu : InS w' (g + 1) u l) : Stk (w'.setCell ⟨g, 0, none⟩ u) g l b :=
 ⟨u, by rw [heap_set (w := w') ((hb.block g (by omega)).trans h)]; rfl, hu.set (by omega)⟩
theorem Stk.set1 {w w' : World} {g : Nat} {b : Bool} {v : Value} {l : List Int} (h : w.heap[g]? = some (.cells #[v, .bool b] 82 (0, 0))) (hb : Below (g + 1) w w') (hu : InS w' (g + 1) v l) : Stk (w'.setCell ⟨g, 1, none⟩ (.bool true)) g l true :=
 ⟨v, by rw [heap_set (w := w') ((hb.block g (by omega)).trans h)]; rfl, hu.set (by omega)⟩
theorem InS.pop {w : World} {base : Nat} {v : Value} {l : List Int} {x : Int} (h : InS w base v (l ++ [x])) : ∃ g cap, v = .slice (some ⟨g, 0, none⟩) (l.length + 1) cap ∧ l.length + 1 ≤ cap ∧ cap ≤ maxLen ∧ w.cell? ⟨g, l.length, none⟩ = some (.int .i64 x) ∧ InS w base (.slice (some ⟨g, 0, none⟩) l.length cap) l := by
 have h' : w.ownsRow base 3 1 v (l.length + 1) (l.map (Value.int .i64) ++ [.int .i64 x]) := by unfold InS at h; simpa using h
 rcases h'.2 with ⟨_, hz⟩ | ⟨g, cap, cur, rfl, hg, hh, hc, hm, r⟩
 ·omega
 ·refine ⟨g, cap, rfl, hc, hm, ?_, ?_⟩
  ·have := h'.cells (g := g) rfl l.length (.int .i64 x) (by simp)
   have e : (⟨g, 0, none⟩ : Addr).add l.length = ⟨g, l.length, none⟩ := by unfold Addr.add; split <;> simp_all
   rwa [e] at this
  ·exact ownsRow_pop (by simp) h'
set_option maxHeartbeats 1000000 in
theorem pop_none (w : World) (g : Nat) (b : Bool) (h : Stk w g [] b) : Calls Tryz.prog 52 #[.pointer (some ⟨g, 0, none⟩)] w fun e w' => e = .returned (.int .i64 0) ∧ Stk w' g [] true ∧ Gr g w w' := by
 have hg := h.lt
 obtain ⟨v, h1, h2⟩ := h
 obtain ⟨A, cap, rfl⟩ := h2.form
 have c0 : w.cell? ⟨g, 0, none⟩ = some (.slice A 0 cap) := by simp [World.cell?, h1]
 have f1 : w.frozen? ⟨g, 1, none⟩ = false := by simp [World.frozen?, h1]
 have c1 : w.cell? ⟨g, 1, none⟩ = some (.bool b) := by simp [World.cell?, h1]
 replace h1 := hide h1
 go_enter Tryz.func52, Tryz.ntmps52
 go_wp2
 go_ret
 exact ⟨rfl, Stk.set1 h1.out (Below.refl _ _) h2, Gr.set _ _ _ _⟩
set_option maxHeartbeats 1000000 in
theorem pop_some (w : World) (g : Nat) (xs : List Int) (x : Int) (b : Bool) (h : Stk w g (xs ++ [x]) b) (hm : xs.length ≤ 100000) : Calls Tryz.prog 52 #[.pointer (some ⟨g, 0, none⟩)] w fun e w' => e = .returned (.int .i64 x) ∧ Stk w' g xs b ∧ Gr g w w' := by
 have hg := h.lt
 obtain ⟨v, h1, h2⟩ := h
 obtain ⟨k, cap, rfl, hc, hcm, hx, h3⟩ := h2.pop
 have c0 : w.cell? ⟨g, 0, none⟩ = some (.slice (some ⟨k, 0, none⟩) (xs.length + 1) cap) := by simp [World.cell?, h1]
 have f0 : w.frozen? ⟨g, 0, none⟩ = false := by simp [World.frozen?, h1]
 replace h1 := hide h1
 replace h3 := hide h3
 clear h2
 generalize hn : xs.length = n at *
 have hnz : ((n : Int) + 1 == 0) = false := by rw [beq_eq_false_iff_ne]; omega
 go_enter Tryz.func52, Tryz.ntmps52
 go_wp2_with fail
 go_quiet (fail)
 go_wp2_with fail
 go_region
 all_goals
  go_wp2
  go_ret
  have hd : ∀ B m, Below B w (w.drewN m) := fun B m => below_drewN (Below.refl _ _) m
  exact ⟨rfl, Stk.set0 h1.out (hd _ _) (h3.out.below (hd _ _) (Nat.le_refl _)), (Gr.of (hd _ _)).trans (Gr.set _ _ _ _)⟩
end Go.Proofs.YtmfpbahifhndjaaGreat

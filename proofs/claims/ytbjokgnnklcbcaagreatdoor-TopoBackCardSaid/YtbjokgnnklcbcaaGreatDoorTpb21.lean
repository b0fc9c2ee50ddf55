import Derived.Test.YtbjokgnnklcbcaaGreatDoorTpb18
import Derived.Deep.DeepCutAuto
import Derived.Deep.RegionHeld3
import Derived.WideKeyRuns
set_option linter.all false
/-! Layer 13: the program's Next. -/
namespace Go.Proofs.YtbjokgnnklcbcaaGreatDoor
open Go.RowKit
set_option maxRecDepth 100000 in
set_option maxHeartbeats 4000000 in
theorem tnext_any (n : Net) (A1 A2 A3 : Option Addr) (c1 c2 c3 : Nat) (s p : Int) (w : World) (h : NetS w w.heap.size A1 A2 A3 n) :
  Calls Tryz.prog 13 #[netV n A1 A2 A3 c1 c2 c3, .agg #[.int .i64 s, .int .i64 p]] w fun e w' =>
   e = .returned (.tuple #[.agg #[.int .i64 (nextB n (s, p)).1.1, .int .i64 (nextB n (s, p)).1.2], .bool (nextB n (s, p)).2.1, .bool (nextB n (s, p)).2.2]) ∧ Below w.heap.size w w' := by
 obtain ⟨wa, hwa, hsa, hba, hca, -⟩ := box1 w #[.slice A1 n.sw.length c1, .slice A2 n.ports.length c2, .slice A3 n.links.length c3] 27
 obtain ⟨wb, hwb, hsb, hbb, hcb, -⟩ := box1 wa #[.int .i64 s, .int .i64 p] 41
 obtain ⟨wc, hwc, hsc, hbc, hcc, hfc⟩ := box1 wb #[.int .i64 0, .int .i64 0] 41
 have hbbc := hbb.trans (hbc.mono (by omega))
 have hW := hide (hba.trans (hbbc.mono (by omega)))
 have y0 := ((bcell' hbbc).1 w.heap.size 0 (by omega)).trans (hca 0)
 have y1 := ((bcell' hbbc).1 w.heap.size 1 (by omega)).trans (hca 1)
 have y2 := ((bcell' hbbc).1 w.heap.size 2 (by omega)).trans (hca 2)
 have e0 := ((bcell' hbc).1 wa.heap.size 0 (by omega)).trans (hcb 0)
 have e1 := ((bcell' hbc).1 wa.heap.size 1 (by omega)).trans (hcb 1)
 have z0 := hcc 0
 have z1 := hcc 1
 have f0 := hfc 0
 have f1 := hfc 1
 rw [hsb, hsa] at z0 z1 f0 f1
 rw [hsa] at e0 e1
 simp at y0 y1 y2 e0 e1 z0 z1
 have hNc : NetS wc w.heap.size A1 A2 A3 n := h.below hW.out
 have hz : wc.heap.size = w.heap.size + 3 := by omega
 have hT := hide (tthere_any n A1 A2 A3 c1 c2 c3 s p wc (hNc.more (by omega)))
 have l3 := hNc.2.2.len
 have hw0 : w.heap.size < wc.heap.size := by omega
 have hw1 : w.heap.size + 1 < wc.heap.size := by omega
 have hw2 : w.heap.size + 1 + 1 < wc.heap.size := by omega
 have hv := hide (show nextB n (s, p) = if thereB n (s, p) = true then nextT (nextL n.links (s, p)) else ((0, 0), false, false) from rfl)
 have hL3 := hide hNc.2.2
 have hfin := hide (fun (W : World) (hB : Below wc.heap.size wc W) (a b : Value) => show Below w.heap.size w ((W.setCell ⟨w.heap.size + 1 + 1, 0, none⟩ a).setCell ⟨w.heap.size + 1 + 1, 1, none⟩ b) from ((hW.out.trans (hB.mono (by omega))).setCell (by show w.heap.size ≤ w.heap.size + 1 + 1; omega) _).setCell (by show w.heap.size ≤ w.heap.size + 1 + 1; omega) _)
 generalize nextB n (s, p) = RES at hv ⊢
 replace hz := hide hz
 replace hsc := hide hsc
 clear hca hcb hcc hfc hba hbb hbc hbbc hNc h
 go_enter Tryz.func13, Tryz.ntmps13
 cases ht : thereB n (s, p) with
 | false =>
  rw [ht] at hT hv
  have hv' : RES = ((0, 0), false, false) := hv.out
  subst hv'
  clear hv
  go_wp2_with (go_at_call 32; refine hT.out.mono ?_; rintro e w1 ⟨rfl, hb1⟩; have kk := bcell' hb1; replace z0 := (kk.1 _ 0 hw2).trans z0; replace z1 := (kk.1 _ 1 hw2).trans z1; replace f0 := (kk.2 _ 0 hw2).trans f0; replace f1 := (kk.2 _ 1 hw2).trans f1; clear kk; replace hw2 := Nat.lt_of_lt_of_le hw2 hb1.size)
  refine bodyPost_ret (v := .tuple #[.agg #[.int .i64 0, .int .i64 0], .bool false, .bool false]) (by simp [results, Tryz.results13, go_sem, z0, z1]) rfl ⟨rfl, hfin.out _ hb1 _ _⟩
 | true =>
  rw [ht] at hT hv
  have hv' : RES = nextT (nextL n.links (s, p)) := hv.out
  replace hv' := hide hv'
  clear hv
  go_upto_region 3 with (go_at_call 32; refine hT.out.mono ?_; rintro e w1 ⟨rfl, hb1⟩)
  have kk := bcell' hb1
  replace z0 := (kk.1 _ 0 hw2).trans z0
  replace z1 := (kk.1 _ 1 hw2).trans z1
  replace f0 := (kk.2 _ 0 hw2).trans f0
  replace f1 := (kk.2 _ 1 hw2).trans f1
  replace e0 := (kk.1 _ 0 hw1).trans e0
  replace e1 := (kk.1 _ 1 hw1).trans e1
  replace y2 := (kk.1 _ 2 hw0).trans y2
  replace hw0 := Nat.lt_of_lt_of_le hw0 hb1.size
  replace hw1 := Nat.lt_of_lt_of_le hw1 hb1.size
  replace hw2 := Nat.lt_of_lt_of_le hw2 hb1.size
  have hL1 := hide (hL3.out.keep sta_link fun q hq => hb1.cell (Nat.lt_trans hq (by have := hz.out; omega)))
  replace hfin := hide (fun (W : World) (hB : Below w1.heap.size w1 W) => hfin.out W (hb1.trans (hB.mono hb1.size)))
  clear kk y0 y1 hT hb1 hL3 hW
  go_wp2
  go_loopw [8, 17, 22, 28] (fun _ i _ _ wr => ∃ k : Nat, k ≤ n.links.length ∧ i = .int .i64 k ∧ Hid (offL (n.links.take k) (s, p)) ∧ Hid (Below w1.heap.size w1 wr)) (fun _ i _ _ _ => n.links.length - (intOf i).toNat)
  case atStart => exact ⟨0, Nat.zero_le _, rfl, hide (by simp [offL]), hide (Below.refl _ _)⟩
  case round =>
   obtain ⟨k, hk, rfl, hoff, hB⟩ := hrel
   have kk := bcell' hB.out
   replace z0 := (kk.1 _ 0 hw2).trans z0
   replace z1 := (kk.1 _ 1 hw2).trans z1
   replace f0 := (kk.2 _ 0 hw2).trans f0
   replace f1 := (kk.2 _ 1 hw2).trans f1
   replace e0 := (kk.1 _ 0 hw1).trans e0
   replace e1 := (kk.1 _ 1 hw1).trans e1
   have hzr := hB.out.size
   have hr0 := Nat.lt_of_lt_of_le hw0 hzr
   have hr1 := Nat.lt_of_lt_of_le hw1 hzr
   have hr2 := Nat.lt_of_lt_of_le hw2 hzr
   by_cases hlt : k < n.links.length
   ·have hkz : (k : Int) < (n.links.length : Int) := by omega
    obtain ⟨b, o, rfl, hb, x1, x2, x3, x4⟩ := (hL1.out.keep sta_link fun q hq => hB.out.cell (Nat.lt_trans hq (by omega))).link hlt
    have hn := hide (nextL_at hlt hoff.out)
    have hso := hide (fun h1 h2 => offL_succ hlt hoff.out h1 h2)
    clear kk
    generalize n.links[k] = L at x1 x2 x3 x4 hn hso
    obtain ⟨⟨a1, a2⟩, ⟨b1, b2⟩⟩ := L
    simp only at x1 x2 x3 x4 hn hso
    obtain ⟨wl, hwl, hsl, hbl, hcl, -⟩ := box1 wr #[.int .i64 a1, .int .i64 a2, .int .i64 b1, .int .i64 b2] 72
    have q0 := hcl 0
    have q1 := hcl 1
    have q2 := hcl 2
    have q3 := hcl 3
    simp at q0 q1 q2 q3
    have kl := bcell' hbl
    have e0' := (kl.1 _ 0 hr1).trans e0
    have e1' := (kl.1 _ 1 hr1).trans e1
    have z0' := (kl.1 _ 0 hr2).trans z0
    have z1' := (kl.1 _ 1 hr2).trans z1
    have f0' := (kl.2 _ 0 hr2).trans f0
    have f1' := (kl.2 _ 1 hr2).trans f1
    have hB2 := hide (hB.out.trans (hbl.mono hzr))
    have hll : wr.heap.size < wl.heap.size := by omega
    have hr1' := Nat.lt_of_lt_of_le hr1 hbl.size
    have hr2' := Nat.lt_of_lt_of_le hr2 hbl.size
    replace hsl := hide hsl
    clear kl hcl hbl
    by_cases he : (a1, a2) = (s, p)
    ·have hvk := hide (show RES = ((b1, b2), true, true) from by rw [hv'.out, hn.out, if_pos he]; rfl)
     obtain ⟨rfl, rfl⟩ : a1 = s ∧ a2 = p := by simpa using he
     clear he hn hso
     go_wp2
     refine bodyPost_ret (v := .tuple #[.agg #[.int .i64 b1, .int .i64 b2], .bool true, .bool true]) (by simp [results, Tryz.results13, go_sem, z0', z1']) rfl ⟨by rw [hvk.out], hfin.out _ hB2.out _ _⟩
    ·by_cases he2 : (b1, b2) = (s, p)
     ·have hvk := hide (show RES = ((a1, a2), true, true) from by rw [hv'.out, hn.out, if_neg he, if_pos he2]; rfl)
      obtain ⟨g1, g2⟩ : b1 = s ∧ b2 = p := by simpa using he2
      have d1 : ¬ s = a1 ∨ (s = a1 ∧ ¬ p = a2) := by
       rcases end_ne he with g | ⟨g, g'⟩
       ·exact .inl fun e => g e.symm
       ·exact .inr ⟨g.symm, fun e => g' e.symm⟩
      clear he he2 hn hso
      subst g1 g2
      rcases d1 with d1 | ⟨d1, d2⟩
      ·go_wp2
       refine bodyPost_ret (v := .tuple #[.agg #[.int .i64 a1, .int .i64 a2], .bool true, .bool true]) (by simp [results, Tryz.results13, go_sem, z0', z1']) rfl ⟨by rw [hvk.out], hfin.out _ hB2.out _ _⟩
      ·subst d1
       go_wp2
       refine bodyPost_ret (v := .tuple #[.agg #[.int .i64 b1, .int .i64 a2], .bool true, .bool true]) (by simp [results, Tryz.results13, go_sem, z0', z1']) rfl ⟨by rw [hvk.out], hfin.out _ hB2.out _ _⟩
     ·have hof := hide (hso.out he he2)
      have d1 : ¬ s = a1 ∨ (s = a1 ∧ ¬ p = a2) := by
       rcases end_ne he with g | ⟨g, g'⟩
       ·exact .inl fun e => g e.symm
       ·exact .inr ⟨g.symm, fun e => g' e.symm⟩
      have d3 : ¬ s = b1 ∨ (s = b1 ∧ ¬ p = b2) := by
       rcases end_ne he2 with g | ⟨g, g'⟩
       ·exact .inl fun e => g e.symm
       ·exact .inr ⟨g.symm, fun e => g' e.symm⟩
      clear he he2 hn hso
      rcases d1 with d1 | ⟨rfl, d2⟩ <;> rcases d3 with d3 | ⟨rfl, d4⟩
      all_goals
       go_wp2
       go_roundw
       case rel => exact ⟨k + 1, by omega, by go_num, hof, hB2⟩
       case measure => simp [intOf]; omega
   ·have hvk := hide (show RES = ((0, 0), true, false) from by rw [hv'.out, nextL_none (by have := hoff.out; rwa [List.take_of_length_le (by omega)] at this)]; rfl)
    clear kk
    go_wp2
    refine bodyPost_ret (v := .tuple #[.agg #[.int .i64 0, .int .i64 0], .bool true, .bool false]) (by simp [results, Tryz.results13, go_sem, z0, z1]) rfl ⟨by rw [hvk.out], hfin.out _ hB.out _ _⟩
end Go.Proofs.YtbjokgnnklcbcaaGreatDoor
namespace Go.Proofs.YtbjokgnnklcbcaaGreatDoor
open Go.RowKit
theorem own_ne {w : World} {base : Nat} {e : TypeId} {size : Nat} {v : Value} {n : Nat} {xs : List Value} (h : w.ownsRow base e size v n xs) {g : Nat} (hg : g < base) : v.ownBlock ≠ some g := by
 intro e
 have := (h.lt g e).1
 omega
end Go.Proofs.YtbjokgnnklcbcaaGreatDoor
/-! A map from ends to numbers, that the call makes: its rows as a list. -/
namespace Go.Proofs.YtbjokgnnklcbcaaGreatDoor
open Go.RowKit
theorem run_equal_end (a b : Int × Int) (w : World) : (Op.equal 41 (endV a) (endV b)).run Tryz.prog w = .ok (decide (a = b)) w := by
 obtain ⟨a1, a2⟩ := a
 obtain ⟨b1, b2⟩ := b
 by_cases h1 : a1 = b1
 ·by_cases h2 : a2 = b2
  ·subst h1 h2; simp [Op.equal, Op.maxDepth, endV]; go_simp
  ·have : ¬ (a1, a2) = (b1, b2) := fun g => h2 (by injection g)
   simp [Op.equal, Op.maxDepth, endV]; go_simp
 ·have : ¬ (a1, a2) = (b1, b2) := fun g => h1 (by injection g)
  simp [Op.equal, Op.maxDepth, endV]; go_simp
theorem run_check_end (a : Int × Int) (e : Bool) (w : World) : (Instr.checkKey e 10000 41 (endV a)).run Tryz.prog w = .ok () w := by
 obtain ⟨a1, a2⟩ := a
 simp only [endV]
 unfold Instr.checkKey
 go_simp
 have hk : ∀ (n : Nat) (x : Int) (w : World), (Instr.checkKey e (n + 1) 3 (.int .i64 x)).run Tryz.prog w = .ok () w := fun n x w => by
  simp [Instr.checkKey, run_underlying Tryz.underlying3]
 rw [hk 9998, Result.andThen_ok, hk 9998]
abbrev MM := List ((Int × Int) × Int)
def mL (o : Nat) (M : MM) : List MapEntry := (M.zipIdx o).map fun x => ⟨endV x.1.1, .int .i64 x.1.2, x.2⟩
def mEnt (M : MM) : Array MapEntry := (mL 0 M).toArray
def MapS (w : World) (b : Nat) (M : MM) : Prop := w.heap[b]? = some (.map (mEnt M) M.length)
def putM (w : World) (b : Nat) (M : MM) : World := { w with heap := w.heap.setIfInBounds b (.map (mEnt M) M.length) }
def lookM : MM → (Int × Int) → Option (Nat × Int)
 | [], _ => none
 | x :: M, e => if e = x.1 then some (0, x.2) else (lookM M e).map fun y => (y.1 + 1, y.2)
theorem run_findAsking (e : Int × Int) (w : World) : ∀ (M : MM) (o i : Nat), (Instr.findAsking 41 (endV e) (mL o M) i).run Tryz.prog w = .ok ((lookM M e).map fun y => (i + y.1, .int .i64 y.2)) w
 | [], o, i => by simp [mL, Instr.findAsking, lookM]
 | x :: M, o, i => by
  have ih := run_findAsking e w M (o + 1) (i + 1)
  have hm : mL o (x :: M) = ⟨endV x.1, .int .i64 x.2, o⟩ :: mL (o + 1) M := by simp [mL, List.zipIdx_cons]
  rw [hm]
  unfold Instr.findAsking
  simp only [Sem.run_bind, run_equal_end, Result.andThen_ok]
  by_cases h : e = x.1
  ·simp [lookM, h]
  ·simp only [h, decide_false, Bool.false_eq_true, if_false, lookM, ih]
   cases lookM M e with
   | none => simp
   | some y => simp; omega
theorem run_findKey_end (e : Int × Int) (w : World) (M : MM) : (Instr.findKey 41 (endV e) (mEnt M).toList).run Tryz.prog w = .ok ((lookM M e).map fun y => (y.1, .int .i64 y.2)) w := by
 rw [run_findKey_eq w (by kernel_rfl)]
 have := run_findAsking e w M 0 0
 simpa [mEnt] using this
theorem mapS_put {w : World} {b : Nat} {M M' : MM} (h : MapS w b M) : MapS (putM w b M') b M' := by
 have : b < w.heap.size := by
  rcases Nat.lt_or_ge b w.heap.size with h1 | h1
  ·exact h1
  ·unfold MapS at h; rw [Array.getElem?_eq_none h1] at h; cases h
 simp [MapS, putM, this]
theorem put_cell {w : World} {b : Nat} {M M' : MM} (h : MapS w b M) (a : Addr) : (putM w b M').cell? a = w.cell? a := by
 unfold MapS at h
 by_cases e : a.block = b
 ·subst e
  have h2 := mapS_put (w := w) (M' := M') (M := M) h
  unfold MapS at h2
  simp [World.cell?, h, h2]
 ·simp only [World.cell?, putM]
  rw [Array.getElem?_setIfInBounds_ne (fun g => e g.symm)]
theorem run_getObj_map {w : World} {b : Nat} {M : MM} (h : MapS w b M) : (getObj b).run Tryz.prog w = .ok (.map (mEnt M) M.length) w := by
 unfold MapS at h
 simp [getObj, Sem.run, h]
theorem run_setObj_map {w : World} {b : Nat} {M : MM} (h : MapS w b M) (M' : MM) (es : Array MapEntry) (c : Nat) (he : es = mEnt M') (hc : c = M'.length) : (setObj b (.map es c)).run Tryz.prog w = .ok () (putM w b M') := by
 unfold MapS at h
 subst he hc
 simp [setObj, Sem.run, h, putM]
theorem run_lookup_end {w : World} {b : Nat} {M : MM} (h : MapS w b M) (e : Int × Int) : (Instr.lookup 74 (.map (some b)) (endV e) false).run Tryz.prog w = .ok (.int .i64 (((lookM M e).map fun y => y.2).getD 0)) w := by
 unfold Instr.lookup
 simp only [Sem.run_bind, run_underlying Tryz.underlying74, Result.andThen_ok, run_getObj_map h, Sem.run_pure, run_check_end, run_findKey_end]
 cases hl : lookM M e with
 | none => simp
 | some y => simp
theorem mL_get : ∀ (M : MM) (o i : Nat), (mL o M)[i]? = (M[i]?).map fun x => ⟨endV x.1, .int .i64 x.2, o + i⟩ := by
 intro M o i
 simp [mL, List.getElem?_map, List.getElem?_zipIdx]
 cases M[i]? <;> simp
theorem lookM_at {M : MM} {e : Int × Int} {y : Nat × Int} (h : lookM M e = some y) : M[y.1]? = some (e, y.2) := by
 induction M generalizing y with
 | nil => simp [lookM] at h
 | cons x M ih =>
  simp only [lookM] at h
  by_cases he : e = x.1
  ·rw [if_pos he] at h; injection h with h; subst h; subst he; simp
  ·rw [if_neg he] at h
   cases hl : lookM M e with
   | none => rw [hl] at h; cases h
   | some z => rw [hl] at h; injection h with h; subst h; simpa using ih hl
theorem sameBits_end (e : Int × Int) : Instr.sameBits 10000 (endV e) (endV e) = true := by
 obtain ⟨a, b⟩ := e
 simp [Instr.sameBits]
theorem run_entry_old {w : World} {b : Nat} {M : MM} (h : MapS w b M) {e : Int × Int} {y : Nat × Int} (hl : lookM M e = some y) :
  (Instr.mapEntry 74 (.map (some b)) (endV e)).run Tryz.prog w = .ok (.tuple #[.int .i64 y.2, .int .i64 y.1]) (putM w b M) := by
 have hat := lookM_at hl
 have hm : (mEnt M)[y.1]? = some ⟨endV e, .int .i64 y.2, y.1⟩ := by
  have := mL_get M 0 y.1
  rw [hat] at this
  simpa [mEnt] using this
 have hmod : (mEnt M).modify y.1 (fun x => { x with key := endV e }) = mEnt M := by
  apply Array.ext_getElem?
  intro i
  rw [Array.getElem?_modify]
  by_cases hi : y.1 = i
  ·subst hi; rw [if_pos rfl, hm]; rfl
  ·rw [if_neg hi]
 unfold Instr.mapEntry
 simp only [Sem.run_bind, run_underlying Tryz.underlying74, Result.andThen_ok, run_getObj_map h, run_check_end, run_findKey_end, hl, Option.map_some, hm, Option.getD_some, Instr.keyThatStays, sameBits_end, if_true, Sem.run_pure, hmod, run_setObj_map h M _ _ rfl rfl]
 simp [goInt]
theorem run_entry_new {w : World} {b : Nat} {M : MM} (h : MapS w b M) {e : Int × Int} (hl : lookM M e = none) :
  (Instr.mapEntry 74 (.map (some b)) (endV e)).run Tryz.prog w = .ok (.tuple #[.int .i64 0, .int .i64 M.length]) (putM w b (M ++ [(e, 0)])) := by
 have hp : (mEnt M).push ⟨endV e, .int .i64 0, M.length⟩ = mEnt (M ++ [(e, 0)]) := by
  simp [mEnt, mL, List.zipIdx_append]
 have hz : (zeroValue 3).run Tryz.prog w = .ok (.int .i64 0) w := by go_simp
 unfold Instr.mapEntry
 simp only [Sem.run_bind, run_underlying Tryz.underlying74, Result.andThen_ok, run_getObj_map h, run_check_end, run_findKey_end, hl, Option.map_none, hz, run_setObj_map h (M ++ [(e, 0)]) _ (M.length + 1) hp (by simp)]
 simp [goInt]
theorem run_entryStore {w : World} {b : Nat} {M : MM} (h : MapS w b M) {e : Int × Int} {i : Nat} {u : Int} (hi : M[i]? = some (e, u)) (v : Int) :
  (Instr.entryStore 74 (.map (some b)) (.int .i64 i) (.int .i64 v)).run Tryz.prog w = .ok () (putM w b (M.set i (e, v))) := by
 have hlt : i < M.length := (List.getElem?_eq_some_iff.1 hi).1
 have hf : (mEnt M).findIdx? (fun x => (x.born : Int) == (i : Int)) = some i := by
  rw [mEnt, List.findIdx?_toArray, List.findIdx?_eq_some_iff_getElem]
  refine ⟨by simpa [mL] using hlt, by simp [mL], fun j hj => ?_⟩
  simp [mL]; omega
 have hmod : (mEnt M).modify i (fun x => { x with val := .int .i64 v }) = mEnt (M.set i (e, v)) := by
  apply Array.ext_getElem?
  intro j
  have h1 := mL_get M 0 j
  have h2 := mL_get (M.set i (e, v)) 0 j
  rw [Array.getElem?_modify]
  simp only [mEnt, List.getElem?_toArray] at h1 h2 ⊢
  rw [h1, h2]
  by_cases hij : i = j
  ·subst hij
   have hg : M[i] = (e, u) := by rw [List.getElem?_eq_getElem hlt] at hi; injection hi
   simp [hlt, hg]
  ·simp [hij]
 unfold Instr.entryStore
 simp only [Sem.run_bind, Result.andThen_ok, run_getObj_map h, asInt, asIntOf, Sem.run_pure, hf, hmod, run_setObj_map h (M.set i (e, v)) _ M.length rfl (by simp)]
theorem MapS.lt {w : World} {b : Nat} {M : MM} (h : MapS w b M) : b < w.heap.size := by
 rcases Nat.lt_or_ge b w.heap.size with h1 | h1
 ·exact h1
 ·unfold MapS at h; rw [Array.getElem?_eq_none h1] at h; cases h
theorem MapS.alloc {w : World} {b : Nat} {M : MM} (h : MapS w b M) (o : Obj) : MapS (w.alloc o) b M := (Below.heap_alloc w o b h.lt).trans h
theorem MapS.drew {w : World} {b : Nat} {M : MM} (h : MapS w b M) : MapS w.drew b M := h
theorem MapS.below {w w' : World} {b B : Nat} {M : MM} (h : MapS w b M) (hb : Below B w w') (hB : b < B) : MapS w' b M := (hb.block b hB).trans h
theorem below_put {B b : Nat} {w w' : World} {M : MM} (h : Below B w w') (hB : B ≤ b) : Below B w (putM w' b M) :=
 ⟨h.os, h.tape, h.output, by simpa [putM] using h.size, fun k hk => by
  rw [← h.block k hk]; simp only [putM]; rw [Array.getElem?_setIfInBounds_ne (by omega)]⟩
theorem lookM_none {es : List (Int × Int)} {e : Int × Int} (h : e ∉ es) : lookM (es.map fun x => (x, 1)) e = none := by
 induction es with
 | nil => rfl
 | cons x es ih =>
  simp only [List.mem_cons, not_or] at h
  simp only [List.map_cons, lookM, if_neg h.1, ih h.2, Option.map_none]
theorem lookM_some {es : List (Int × Int)} {e : Int × Int} (h : e ∈ es) : ∃ i, lookM (es.map fun x => (x, 1)) e = some (i, 1) := by
 induction es with
 | nil => simp at h
 | cons x es ih =>
  by_cases hx : e = x
  ·exact ⟨0, by simp [lookM, hx]⟩
  ·obtain ⟨i, hi⟩ := ih ((List.mem_cons.1 h).resolve_left hx)
   exact ⟨i + 1, by simp [lookM, hx, hi]⟩
theorem lookM_app {M : MM} {e : Int × Int} (h : lookM M e = none) (v : Int) : lookM (M ++ [(e, v)]) e = some (M.length, v) := by
 induction M with
 | nil => simp [lookM]
 | cons x M ih =>
  simp only [lookM] at h
  by_cases hx : e = x.1
  ·rw [if_pos hx] at h; cases h
  ·rw [if_neg hx] at h
   have : lookM M e = none := by cases hl : lookM M e with
    | none => rfl
    | some y => rw [hl] at h; cases h
   simp [lookM, hx, ih this]
theorem lookM_set {M : MM} {e : Int × Int} {y : Nat × Int} (h : lookM M e = some y) (v : Int) : lookM (M.set y.1 (e, v)) e = some (y.1, v) := by
 induction M generalizing y with
 | nil => simp [lookM] at h
 | cons x M ih =>
  simp only [lookM] at h
  by_cases hx : e = x.1
  ·rw [if_pos hx] at h; injection h with h; subst h; simp [lookM]
  ·rw [if_neg hx] at h
   cases hl : lookM M e with
   | none => rw [hl] at h; cases h
   | some z =>
    rw [hl] at h; injection h with h; subst h
    simp [lookM, hx, ih hl]
end Go.Proofs.YtbjokgnnklcbcaaGreatDoor

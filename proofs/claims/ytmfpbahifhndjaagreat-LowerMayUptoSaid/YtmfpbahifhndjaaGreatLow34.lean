import Derived.Test.YtmfpbahifhndjaaGreatLow32
set_option linter.all false
/-! Layer 10: is one of some so: by a function value. -/
set_option linter.all false
namespace Go.Proofs.YtmfpbahifhndjaaGreat
open Go.RowKit
def idxG {α : Type} (p : α → Bool) (xs : List α) : Int := match xs.findIdx? p with
 | some i => (i : Int)
 | none => -1
theorem idxG_at {α : Type} {p : α → Bool} {xs : List α} {k : Nat} (hk : k < xs.length) (h : (xs.take k).any p = false) (hp : p xs[k] = true) : idxG p xs = (k : Int) := by
 have : xs.findIdx? p = some k := by
  rw [List.findIdx?_eq_some_iff_getElem]
  refine ⟨hk, hp, fun j hj => ?_⟩
  exact List.any_eq_false.1 h xs[j] (List.mem_take_iff_getElem.2 ⟨j, by omega, rfl⟩)
 rw [idxG, this]
theorem idxG_no {α : Type} {p : α → Bool} {xs : List α} (h : xs.any p = false) : idxG p xs = -1 := by
 have : xs.findIdx? p = none := by
  rw [List.findIdx?_eq_none_iff]
  intro x hx
  simpa using List.any_eq_false.1 h x hx
 rw [idxG, this]
theorem idxG_nonneg {α : Type} (p : α → Bool) (xs : List α) : decide (0 ≤ idxG p xs) = xs.any p := by
 unfold idxG
 cases h : xs.findIdx? p with
 | none =>
  rw [List.findIdx?_eq_none_iff] at h
  have : xs.any p = false := List.any_eq_false.2 fun x hx => by simp [h x hx]
  rw [this]; rfl
 | some i =>
  rw [List.findIdx?_eq_some_iff_getElem] at h
  obtain ⟨hi, hp, -⟩ := h
  rw [any_of_getElem hi hp]
  simp
/-- A function value that answers q of each of some, in every world in which all below B lies as it lay. -/
def FnG {α : Type} (R : CR α) (B : Nat) (fid : Nat) (lb : Array Value) (q : α → Bool) (xs : List α) (w : World) : Prop :=
 ∀ (x : α) (W : World) (cs : List Value), x ∈ xs → Below B w W → R W W.heap.size cs x → Calls Tryz.prog fid (#[.agg cs.toArray] ++ lb) W fun e w' => e = .returned (.bool (q x)) ∧ Below W.heap.size W w'
set_option maxHeartbeats 2000000 in
theorem indexBr_any (fid : Nat) (lb : Array Value) (eg : ∀ args w, (callFunc fid args).run Tryz.prog w = .ok (.enter fid args) w) (q : Br → Bool) (A : Option Addr) (cap : Nat) (xs : List Br) (w : World) (h : Sl 2 rBr w w.heap.size A xs) (hf : FnG rBr w.heap.size fid lb q xs w) :
  Calls Tryz.prog 91 #[.slice A xs.length cap, .func (.func fid) #[] lb] w fun e w' => e = .returned (.int .i64 (idxG q xs)) ∧ Below w.heap.size w w' := by
 have hl := h.len
 replace hf := hide hf
 go_enter Tryz.func91, Tryz.ntmps91
 go_wp2
 go_loopw [5, 8] (fun _ i wr => ∃ k : Nat, k ≤ xs.length ∧ i = .int .i64 k ∧ Hid ((xs.take k).any q = false) ∧ Hid (Below w.heap.size w wr)) (fun _ i _ => xs.length - (intOf i).toNat)
 case atStart => exact ⟨0, Nat.zero_le _, rfl, hide (by simp), hide (Below.refl _ _)⟩
 case round =>
  obtain ⟨k, hk, rfl, hc, hbr⟩ := hrel
  by_cases hlt : k < xs.length
  ·have hltz : (k : Int) < (xs.length : Int) := by omega
   obtain ⟨b, o, ecs, rfl, hb, hn, hcell, hre⟩ := h.2 k _ (List.getElem?_eq_getElem hlt)
   have hcall := hf.out xs[k] wr ecs (List.getElem_mem _) hbr.out (sta_br.more (sta_br.keep hre fun q hq => hbr.out.cell hq) hbr.out.size)
   have hcw := fun j u hu => (hbr.out.cell (p := ⟨b, o + k * 2 + j, none⟩) hb).trans (hcell j u hu)
   obtain ⟨PA, pc, rfl, hs⟩ := hre
   have x0 : wr.cell? ⟨b, o + k * 2, none⟩ = _ := hcw 0 _ rfl
   have x1 : wr.cell? ⟨b, o + k * 2 + 1, none⟩ = _ := hcw 1 _ rfl
   clear h hcell hcw
   cases hp : q xs[k] with
   | true =>
    rw [hp] at hcall
    have hv := hide (idxG_at hlt hc.out hp)
    clear hp
    replace hcall := hide hcall
    go_wp2_with (go_at_fn fid; refine hcall.out.mono ?_; rintro e w' ⟨rfl, hb1⟩)
    go_ret
    exact ⟨ret_int hv.out.symm, hbr.out.trans (hb1.mono hbr.out.size)⟩
   | false =>
    rw [hp] at hcall
    have hv := hide (any_take_succ hlt hc.out hp)
    clear hp
    replace hcall := hide hcall
    go_wp2_with (go_at_fn fid; refine hcall.out.mono ?_; rintro e w' ⟨rfl, hb1⟩)
    go_roundw
    case rel => exact ⟨k + 1, by omega, by go_num, hv, hide (hbr.out.trans (hb1.mono hbr.out.size))⟩
    case measure => simp [intOf]; omega
  ·have hv := hide (idxG_no (any_of_take hk hlt hc.out))
   go_wp2
   go_ret
   exact ⟨ret_int hv.out.symm, hbr.out⟩
set_option maxHeartbeats 1000000 in
theorem containsBr_any (fid : Nat) (lb : Array Value) (eg : ∀ args w, (callFunc fid args).run Tryz.prog w = .ok (.enter fid args) w) (q : Br → Bool) (A : Option Addr) (cap : Nat) (xs : List Br) (w : World) (h : Sl 2 rBr w w.heap.size A xs) (hf : FnG rBr w.heap.size fid lb q xs w) :
  Calls Tryz.prog 69 #[.slice A xs.length cap, .func (.func fid) #[] lb] w fun e w' => e = .returned (.bool (xs.any q)) ∧ Below w.heap.size w w' := by
 have hv := hide (idxG_nonneg q xs)
 replace hf := hide hf
 go_enter Tryz.func69, Tryz.ntmps69
 go_wp2_with (go_at_call 91; refine (indexBr_any fid lb eg q A cap xs _ h hf.out).mono ?_; rintro e w' ⟨rfl, hb⟩)
 go_ret
 exact ⟨ret_b hv.out, hb⟩
set_option maxHeartbeats 2000000 in
theorem indexSt_any (fid : Nat) (lb : Array Value) (eg : ∀ args w, (callFunc fid args).run Tryz.prog w = .ok (.enter fid args) w) (q : Stp → Bool) (A : Option Addr) (cap : Nat) (xs : List Stp) (w : World) (h : Sl 4 rStp w w.heap.size A xs) (hf : FnG rStp w.heap.size fid lb q xs w) :
  Calls Tryz.prog 61 #[.slice A xs.length cap, .func (.func fid) #[] lb] w fun e w' => e = .returned (.int .i64 (idxG q xs)) ∧ Below w.heap.size w w' := by
 have hl := h.len
 replace hf := hide hf
 go_enter Tryz.func61, Tryz.ntmps61
 go_wp2
 go_loopw [5, 8] (fun _ i wr => ∃ k : Nat, k ≤ xs.length ∧ i = .int .i64 k ∧ Hid ((xs.take k).any q = false) ∧ Hid (Below w.heap.size w wr)) (fun _ i _ => xs.length - (intOf i).toNat)
 case atStart => exact ⟨0, Nat.zero_le _, rfl, hide (by simp), hide (Below.refl _ _)⟩
 case round =>
  obtain ⟨k, hk, rfl, hc, hbr⟩ := hrel
  by_cases hlt : k < xs.length
  ·have hltz : (k : Int) < (xs.length : Int) := by omega
   obtain ⟨b, o, ecs, rfl, hb, hn, hcell, hre⟩ := h.2 k _ (List.getElem?_eq_getElem hlt)
   have hcall := hf.out xs[k] wr ecs (List.getElem_mem _) hbr.out (sta_stp.more (sta_stp.keep hre fun q hq => hbr.out.cell hq) hbr.out.size)
   have hcw := fun j u hu => (hbr.out.cell (p := ⟨b, o + k * 4 + j, none⟩) hb).trans (hcell j u hu)
   obtain ⟨P1, P2, P3, d1, d2, d3, rfl, hs1, hs2, hs3, hs4⟩ := hre
   have x0 : wr.cell? ⟨b, o + k * 4, none⟩ = _ := hcw 0 _ rfl
   have x1 : wr.cell? ⟨b, o + k * 4 + 1, none⟩ = _ := hcw 1 _ rfl
   have x2 : wr.cell? ⟨b, o + k * 4 + 2, none⟩ = _ := hcw 2 _ rfl
   have x3 : wr.cell? ⟨b, o + k * 4 + 3, none⟩ = _ := hcw 3 _ rfl
   clear h hcell hcw
   cases hp : q xs[k] with
   | true =>
    rw [hp] at hcall
    have hv := hide (idxG_at hlt hc.out hp)
    clear hp
    replace hcall := hide hcall
    go_wp2_with (go_at_fn fid; refine hcall.out.mono ?_; rintro e w' ⟨rfl, hb1⟩)
    go_ret
    exact ⟨ret_int hv.out.symm, hbr.out.trans (hb1.mono hbr.out.size)⟩
   | false =>
    rw [hp] at hcall
    have hv := hide (any_take_succ hlt hc.out hp)
    clear hp
    replace hcall := hide hcall
    go_wp2_with (go_at_fn fid; refine hcall.out.mono ?_; rintro e w' ⟨rfl, hb1⟩)
    go_roundw
    case rel => exact ⟨k + 1, by omega, by go_num, hv, hide (hbr.out.trans (hb1.mono hbr.out.size))⟩
    case measure => simp [intOf]; omega
  ·have hv := hide (idxG_no (any_of_take hk hlt hc.out))
   go_wp2
   go_ret
   exact ⟨ret_int hv.out.symm, hbr.out⟩
set_option maxHeartbeats 1000000 in
theorem containsSt_any (fid : Nat) (lb : Array Value) (eg : ∀ args w, (callFunc fid args).run Tryz.prog w = .ok (.enter fid args) w) (q : Stp → Bool) (A : Option Addr) (cap : Nat) (xs : List Stp) (w : World) (h : Sl 4 rStp w w.heap.size A xs) (hf : FnG rStp w.heap.size fid lb q xs w) :
  Calls Tryz.prog 29 #[.slice A xs.length cap, .func (.func fid) #[] lb] w fun e w' => e = .returned (.bool (xs.any q)) ∧ Below w.heap.size w w' := by
 have hv := hide (idxG_nonneg q xs)
 replace hf := hide hf
 go_enter Tryz.func29, Tryz.ntmps29
 go_wp2_with (go_at_call 61; refine (indexSt_any fid lb eg q A cap xs _ h hf.out).mono ?_; rintro e w' ⟨rfl, hb⟩)
 go_ret
 exact ⟨ret_b hv.out, hb⟩
set_option maxHeartbeats 2000000 in
theorem indexTb_any (fid : Nat) (lb : Array Value) (eg : ∀ args w, (callFunc fid args).run Tryz.prog w = .ok (.enter fid args) w) (q : Ltb → Bool) (A : Option Addr) (cap : Nat) (xs : List Ltb) (w : World) (h : Sl 5 rLtb w w.heap.size A xs) (hf : FnG rLtb w.heap.size fid lb q xs w) :
  Calls Tryz.prog 71 #[.slice A xs.length cap, .func (.func fid) #[] lb] w fun e w' => e = .returned (.int .i64 (idxG q xs)) ∧ Below w.heap.size w w' := by
 have hl := h.len
 replace hf := hide hf
 go_enter Tryz.func71, Tryz.ntmps71
 go_wp2
 go_loopw [5, 8] (fun _ i wr => ∃ k : Nat, k ≤ xs.length ∧ i = .int .i64 k ∧ Hid ((xs.take k).any q = false) ∧ Hid (Below w.heap.size w wr)) (fun _ i _ => xs.length - (intOf i).toNat)
 case atStart => exact ⟨0, Nat.zero_le _, rfl, hide (by simp), hide (Below.refl _ _)⟩
 case round =>
  obtain ⟨k, hk, rfl, hc, hbr⟩ := hrel
  by_cases hlt : k < xs.length
  ·have hltz : (k : Int) < (xs.length : Int) := by omega
   obtain ⟨b, o, ecs, rfl, hb, hn, hcell, hre⟩ := h.2 k _ (List.getElem?_eq_getElem hlt)
   have hcall := hf.out xs[k] wr ecs (List.getElem_mem _) hbr.out (sta_ltb.more (sta_ltb.keep hre fun q hq => hbr.out.cell hq) hbr.out.size)
   have hcw := fun j u hu => (hbr.out.cell (p := ⟨b, o + k * 5 + j, none⟩) hb).trans (hcell j u hu)
   obtain ⟨P1, P2, P3, P4, d1, d2, d3, d4, rfl, hs1, hs2, hs3, hs4, hs5⟩ := hre
   have x0 : wr.cell? ⟨b, o + k * 5, none⟩ = _ := hcw 0 _ rfl
   have x1 : wr.cell? ⟨b, o + k * 5 + 1, none⟩ = _ := hcw 1 _ rfl
   have x2 : wr.cell? ⟨b, o + k * 5 + 2, none⟩ = _ := hcw 2 _ rfl
   have x3 : wr.cell? ⟨b, o + k * 5 + 3, none⟩ = _ := hcw 3 _ rfl
   have x4 : wr.cell? ⟨b, o + k * 5 + 4, none⟩ = _ := hcw 4 _ rfl
   clear h hcell hcw
   cases hp : q xs[k] with
   | true =>
    rw [hp] at hcall
    have hv := hide (idxG_at hlt hc.out hp)
    clear hp
    replace hcall := hide hcall
    go_wp2_with (go_at_fn fid; refine hcall.out.mono ?_; rintro e w' ⟨rfl, hb1⟩)
    go_ret
    exact ⟨ret_int hv.out.symm, hbr.out.trans (hb1.mono hbr.out.size)⟩
   | false =>
    rw [hp] at hcall
    have hv := hide (any_take_succ hlt hc.out hp)
    clear hp
    replace hcall := hide hcall
    go_wp2_with (go_at_fn fid; refine hcall.out.mono ?_; rintro e w' ⟨rfl, hb1⟩)
    go_roundw
    case rel => exact ⟨k + 1, by omega, by go_num, hv, hide (hbr.out.trans (hb1.mono hbr.out.size))⟩
    case measure => simp [intOf]; omega
  ·have hv := hide (idxG_no (any_of_take hk hlt hc.out))
   go_wp2
   go_ret
   exact ⟨ret_int hv.out.symm, hbr.out⟩
set_option maxHeartbeats 1000000 in
theorem containsTb_any (fid : Nat) (lb : Array Value) (eg : ∀ args w, (callFunc fid args).run Tryz.prog w = .ok (.enter fid args) w) (q : Ltb → Bool) (A : Option Addr) (cap : Nat) (xs : List Ltb) (w : World) (h : Sl 5 rLtb w w.heap.size A xs) (hf : FnG rLtb w.heap.size fid lb q xs w) :
  Calls Tryz.prog 33 #[.slice A xs.length cap, .func (.func fid) #[] lb] w fun e w' => e = .returned (.bool (xs.any q)) ∧ Below w.heap.size w w' := by
 have hv := hide (idxG_nonneg q xs)
 replace hf := hide hf
 go_enter Tryz.func33, Tryz.ntmps33
 go_wp2_with (go_at_call 71; refine (indexTb_any fid lb eg q A cap xs _ h hf.out).mono ?_; rintro e w' ⟨rfl, hb⟩)
 go_ret
 exact ⟨ret_b hv.out, hb⟩
end Go.Proofs.YtmfpbahifhndjaaGreat
/-! Layer 10: widths in a row. -/
set_option linter.all false
namespace Go.Proofs.YtmfpbahifhndjaaGreat
open Go.RowKit
theorem enters_w1 : ∀ args w, (callFunc 56 args).run Tryz.prog w = .ok (.enter 56 args) w := enters_of Tryz.func56 (by kernel_rfl) rfl
theorem notW_any (n : Int) (w : World) : Calls Tryz.prog 56 #[.int .i64 n] w fun e w' => e = .returned (.bool (!widthB n)) ∧ w = w' := by
 go_enter Tryz.func56, Tryz.ntmps56
 go_wp2_with (go_at_call 16; refine (lisWidth_any n _).mono ?_; rintro e w' ⟨rfl, rfl⟩)
 go_ret
 exact ⟨rfl, rfl⟩
theorem any_not' {α : Type} (q : α → Bool) (l : List α) : (l.any fun x => !q x) = !l.all q := by
 induction l with
 | nil => rfl
 | cons x l ih => simp only [List.any_cons, List.all_cons, ih, Bool.not_and]
set_option maxHeartbeats 1000000 in
theorem mayWidths_any (A : Option Addr) (cap : Nat) (xs : List Int) (m : Nat) (w : World) (h : Sl 1 rInt w w.heap.size A xs) :
  Calls Tryz.prog 25 #[.slice A xs.length cap, .int .i64 (m : Int)] w fun e w' => e = .returned (.bool (wdsB xs m)) ∧ Below w.heap.size w w' := by
 have hl := h.len
 have hF : FnB w.heap.size 56 #[] (fun t => !widthB t) xs w := fun t W _ _ => (notW_any t W).mono fun e w' ⟨he, hq⟩ => ⟨he, by rw [hq]; exact Below.refl _ _⟩
 have hC := containsFunc_any 56 #[] enters_w1 (fun t => !widthB t) A cap xs w h hF
 rw [any_not'] at hC
 have hv := hide (show wdsB xs m = (decide (xs.length ≤ m) && xs.all widthB) from rfl)
 generalize xs.all widthB = z at hC hv
 replace hC := hide hC
 clear hF h
 by_cases h1 : xs.length ≤ m
 ·have h1z : (xs.length : Int) ≤ (m : Int) := by omega
  have h1d : decide ((xs.length : Int) ≤ (m : Int)) = true := decide_eq_true h1z
  rw [decide_eq_true h1, Bool.true_and] at hv
  go_enter Tryz.func25, Tryz.ntmps25
  cases z
  all_goals
   go_wp2_with (go_at_call 55; refine hC.out.mono ?_; rintro e w3 ⟨rfl, hb3⟩)
   go_ret
   exact ⟨ret_b hv.out.symm, hb3⟩
 ·have h1z : ¬ (xs.length : Int) ≤ (m : Int) := by omega
  have h1d : decide ((xs.length : Int) ≤ (m : Int)) = false := decide_eq_false h1z
  rw [decide_eq_false h1, Bool.false_and] at hv
  go_enter Tryz.func25, Tryz.ntmps25
  go_wp2
  go_ret
  exact ⟨ret_b hv.out.symm, Below.refl _ _⟩
theorem wsum_snoc (l : List Int) (x : Int) : ∀ n, wsum n (l ++ [x]) = wrap64 (wsum n l + x) := by
 induction l with
 | nil => intro n; rfl
 | cons y l ih => intro n; simp only [List.cons_append, wsum]; exact ih _
theorem wsum_take {l : List Int} {k : Nat} (hk : k < l.length) : wsum 0 (l.take (k + 1)) = wrap64 (wsum 0 (l.take k) + l[k]) := by rw [List.take_succ_eq_append_getElem hk, wsum_snoc]
set_option maxHeartbeats 2000000 in
theorem mayHead_any (A : Option Addr) (cap : Nat) (xs : List Int) (w : World) (h : Sl 1 rInt w w.heap.size A xs) :
  Calls Tryz.prog 24 #[.slice A xs.length cap] w fun e w' => e = .returned (.bool (headB xs)) ∧ Below w.heap.size w w' := by
 have hl := h.len
 have hC := mayWidths_any A cap xs 16 w h
 have hv := hide (show headB xs = (decide (1 ≤ xs.length) && wdsB xs 16 && decide ((wsum 0 xs).tmod 8 = 0) && decide (wsum 0 xs ≤ 256)) from rfl)
 generalize wdsB xs 16 = z at hC hv
 replace hC := hide hC
 go_enter Tryz.func24, Tryz.ntmps24
 go_wp2
 go_loop [3, 5, 8] (fun s _ i => ∃ k : Nat, k ≤ xs.length ∧ i = .int .i64 k ∧ ∃ n, s = .int .i64 n ∧ Hid (wsum 0 (xs.take k) = n)) (fun _ _ i => xs.length - (intOf i).toNat)
 case atStart => exact ⟨0, Nat.zero_le _, rfl, 0, rfl, hide rfl⟩
 case round =>
  obtain ⟨k, hk, rfl, n, rfl, hn⟩ := hrel
  by_cases hlt : k < xs.length
  ·obtain ⟨b, o, rfl, hb, hcell⟩ := h.int hlt
   have hkz : (k : Int) < (xs.length : Int) := by omega
   have hs := hide (show wsum 0 (xs.take (k + 1)) = wrap64 (n + xs[k]) from by rw [wsum_take hlt, hn.out])
   go_wp2
   go_round
   case rel => exact ⟨k + 1, by omega, by go_num, _, rfl, hs⟩
   case measure => simp [intOf]; omega
  ·have hke : k = xs.length := by omega
   rw [hke, List.take_length] at hn
   rw [hn.out] at hv
   by_cases h1 : 1 ≤ xs.length
   ·have h1z : (1 : Int) ≤ (xs.length : Int) := by omega
    rw [decide_eq_true h1, Bool.true_and] at hv
    cases z with
    | false =>
     rw [Bool.false_and, Bool.false_and] at hv
     go_wp2_with (go_at_call 25; refine hC.out.mono ?_; rintro e w3 ⟨rfl, hb3⟩)
     go_ret
     exact ⟨ret_b hv.out.symm, hb3⟩
    | true =>
     rw [Bool.true_and] at hv
     by_cases h2 : n.tmod 8 = 0
     ·rw [decide_eq_true h2, Bool.true_and] at hv
      have h2z : (n.tmod 8 == 0) = true := by rw [beq_iff_eq]; exact h2
      replace h2 := hide h2
      go_wp2_with (go_at_call 25; refine hC.out.mono ?_; rintro e w3 ⟨rfl, hb3⟩)
      all_goals go_ret
      all_goals exact ⟨ret_b (by rw [hv.out] <;> first | rfl | simp [*] | (simp; omega)), hb3⟩
     ·rw [decide_eq_false h2, Bool.false_and] at hv
      have h2z : (n.tmod 8 == 0) = false := beq_eq_false_iff_ne.2 h2
      go_wp2_with (go_at_call 25; refine hC.out.mono ?_; rintro e w3 ⟨rfl, hb3⟩)
      go_ret
      exact ⟨ret_b hv.out.symm, hb3⟩
   ·have h1z : ¬ (1 : Int) ≤ (xs.length : Int) := by omega
    rw [decide_eq_false h1, Bool.false_and, Bool.false_and, Bool.false_and] at hv
    go_wp2
    go_ret
    exact ⟨ret_b hv.out.symm, Below.refl _ _⟩
set_option maxHeartbeats 1000000 in
theorem widths_any (A : Option Addr) (cap : Nat) (xs : List Int) (w : World) (h : Sl 1 rInt w w.heap.size A xs) :
  Calls Tryz.prog 37 #[.slice A xs.length cap] w fun e w' => e = .returned (.bool (xs.all widthB)) ∧ w = w' := by
 have hl := h.len
 have hv := hide (all_allN widthB xs)
 go_enter Tryz.func37, Tryz.ntmps37
 go_wp2
 go_loop [3] (fun i => ∃ k : Nat, k ≤ xs.length ∧ i = .int .i64 k ∧ Hid (allN (atD widthB xs) k = true)) (fun i => xs.length - (intOf i).toNat)
 case atStart => exact ⟨0, Nat.zero_le _, rfl, hide rfl⟩
 case round =>
  obtain ⟨k, hk, rfl, hc⟩ := hrel
  by_cases hlt : k < xs.length
  ·obtain ⟨b, o, rfl, hb, hcell⟩ := h.int hlt
   have hkz : (k : Int) < (xs.length : Int) := by omega
   have hN := hide (fun (g : widthB xs[k] = true) => show allN (atD widthB xs) (k + 1) = true from by rw [allN, hc.out, atD_at _ hlt, g]; rfl)
   have hlo := hide (fun (g : widthB xs[k] = false) => show allN (atD widthB xs) xs.length = false from allN_no hlt (by rw [atD_at _ hlt]; exact g))
   have hK := rok_any xs[k]
   generalize widthB xs[k] = z at hK hN hlo
   cases z with
   | false =>
    replace hlo := hide (hlo.out rfl)
    go_wp2_with (go_at_call 21; refine (hK _).mono ?_; rintro e w' ⟨rfl, rfl⟩)
    go_ret
    exact ⟨ret_b (by rw [hv.out, hlo.out]), rfl⟩
   | true =>
    replace hN := hide (hN.out rfl)
    go_wp2_with (go_at_call 21; refine (hK _).mono ?_; rintro e w' ⟨rfl, rfl⟩)
    go_round
    case rel => exact ⟨k + 1, by omega, by go_num, hN⟩
    case measure => simp [intOf]; omega
  ·have hke : k = xs.length := by omega
   subst hke
   go_wp2
   go_ret
   exact ⟨ret_b (by rw [hv.out, hc.out]), rfl⟩
end Go.Proofs.YtmfpbahifhndjaaGreat
/-! Layer 10: names; headers. -/
set_option linter.all false
namespace Go.Proofs.YtmfpbahifhndjaaGreat
open Go.RowKit
theorem enters_nm : ∀ args w, (callFunc 58 args).run Tryz.prog w = .ok (.enter 58 args) w := enters_of Tryz.func58 (by kernel_rfl) rfl
theorem enters_m1 : ∀ args w, (callFunc 23 args).run Tryz.prog w = .ok (.enter 23 args) w := enters_of Tryz.func23 (by kernel_rfl) rfl
theorem len2_any (A B : Option Addr) (n m c d : Nat) (w : World) (hn : n ≤ 9223372036854775807) (hm : m ≤ 9223372036854775807) : Calls Tryz.prog 58 #[.slice A n c, .slice B m d] w fun e w' => e = .returned (.bool (decide (n = m))) ∧ w = w' := by
 by_cases h : n = m
 ·have hz : ((n : Int) == (m : Int)) = true := by rw [beq_iff_eq]; omega
  have hv := hide (decide_eq_true h)
  replace h := hide h
  go_enter Tryz.func58, Tryz.ntmps58
  go_wp2
  go_ret
  exact ⟨ret_b hv.out.symm, rfl⟩
 ·have hz : ((n : Int) == (m : Int)) = false := by rw [beq_eq_false_iff_ne]; omega
  have hv := hide (decide_eq_false h)
  go_enter Tryz.func58, Tryz.ntmps58
  go_wp2
  go_ret
  exact ⟨ret_b hv.out.symm, rfl⟩
def lenB (l : List Int) (n : List ByteArray) : Bool := decide (l.length = n.length)
theorem Sl.strs {w : World} {B : Nat} {A : Option Addr} {xs : List (List ByteArray)} (h : Sl 1 (rSl 1 rStr) w B A xs) {i : Nat} (hi : i < xs.length) : ∃ b o A' c', A = some ⟨b, o, none⟩ ∧ b < B ∧ w.cell? ⟨b, o + i, none⟩ = some (.slice A' xs[i].length c') ∧ xs[i].length ≤ 9223372036854775807 := by
 obtain ⟨b, o, u, hA, hb, hc, A', c', hr, hs⟩ := h.at1 hi
 cases hr
 exact ⟨b, o, A', c', hA, hb, hc, hs.len⟩
set_option maxRecDepth 100000 in
set_option maxHeartbeats 4000000 in
theorem eqNames_any (A A' : Option Addr) (cap cap' : Nat) (xs : List (List Int)) (ys : List (List ByteArray)) (w : World) (h : Sl 1 (rSl 1 rInt) w w.heap.size A xs) (h' : Sl 1 (rSl 1 rStr) w w.heap.size A' ys) :
  Calls Tryz.prog 57 #[.slice A xs.length cap, .slice A' ys.length cap', .func (.func 58) #[] #[]] w fun e w' => e = .returned (.bool (eqF lenB xs ys)) ∧ w = w' := by
 have hl := h.len
 have hl' := h'.len
 have eg := enters_nm
 go_enter Tryz.func57, Tryz.ntmps57
 by_cases he : xs.length = ys.length
 ·have hez : ((xs.length : Int) != (ys.length : Int)) = false := by rw [he]; exact bne_self_eq_false _
  have hv := hide (show eqF lenB xs ys = allN (fun i => atD (fun x => atD (lenB x) ys i) xs i) xs.length from by unfold eqF; rw [decide_eq_true he, Bool.true_and])
  replace he := hide he
  go_wp2
  go_loop [7, 8, 9, 17] (fun _ _ _ i => ∃ k : Nat, k ≤ xs.length ∧ i = .int .i64 k ∧ Hid (allN (fun i => atD (fun x => atD (lenB x) ys i) xs i) k = true)) (fun _ _ _ i => xs.length - (intOf i).toNat)
  case atStart => exact ⟨0, Nat.zero_le _, rfl, hide rfl⟩
  case round =>
   obtain ⟨k, hk, rfl, hc⟩ := hrel
   by_cases hlt : k < xs.length
   ·have hlt' : k < ys.length := by have := he.out; omega
    have hkz : (k : Int) < (xs.length : Int) := by omega
    have hkz' : (k : Int) < (ys.length : Int) := by omega
    obtain ⟨b, o, X1, x1, rfl, hb, hx, hxs⟩ := h.ints hlt
    obtain ⟨b', o', Y1, y1, rfl, hb', hy, hyl⟩ := h'.strs hlt'
    have hxl := hxs.len
    have hstep : allN (fun i => atD (fun x => atD (lenB x) ys i) xs i) (k + 1) = lenB xs[k] ys[k] := by
     rw [allN, hc.out, Bool.true_and, atD_at _ hlt, atD_at _ hlt']
    have hlo := hide (fun (g : lenB xs[k] ys[k] = false) => show allN (fun i => atD (fun x => atD (lenB x) ys i) xs i) xs.length = false from allN_no hlt (by rw [atD_at _ hlt, atD_at _ hlt']; exact g))
    have hK : Calls Tryz.prog 58 #[.slice X1 xs[k].length x1, .slice Y1 ys[k].length y1] w fun e w' => e = .returned (.bool (lenB xs[k] ys[k])) ∧ w = w' := len2_any X1 Y1 _ _ x1 y1 w hxl hyl
    clear h h' hxs hc
    generalize lenB xs[k] ys[k] = F at hK hstep hlo
    replace hK := hide hK
    replace hstep := hide hstep
    cases F with
    | false =>
     replace hlo := hide (hlo.out rfl)
     go_wp2_with (go_at_fn 58; refine hK.out.mono ?_; rintro e w3 ⟨rfl, rfl⟩)
     go_ret
     exact ⟨ret_b (by rw [hv.out, hlo.out]), rfl⟩
    | true =>
     go_wp2_with (go_at_fn 58; refine hK.out.mono ?_; rintro e w3 ⟨rfl, rfl⟩)
     go_round
     case rel => exact ⟨k + 1, by omega, by go_num, hstep⟩
     case measure => simp [intOf]; omega
   ·have hke : k = xs.length := by omega
    subst hke
    go_wp2
    go_ret
    exact ⟨ret_b (by rw [hv.out, hc.out]), rfl⟩
 ·have hez : ((xs.length : Int) != (ys.length : Int)) = true := by rw [bne_iff_ne]; omega
  have hv := hide (show eqF lenB xs ys = false from by unfold eqF; rw [decide_eq_false he, Bool.false_and])
  clear h h'
  go_wp2
  go_ret
  exact ⟨ret_b hv.out.symm, rfl⟩
/-- A function value that answers q of each of some rows of numbers. -/
def FnL (B : Nat) (fid : Nat) (lb : Array Value) (q : List Int → Bool) (xs : List (List Int)) (w : World) : Prop :=
 ∀ (x : List Int) (W : World) (A : Option Addr) (c : Nat), x ∈ xs → Below B w W → Sl 1 rInt W W.heap.size A x → Calls Tryz.prog fid (#[.slice A x.length c] ++ lb) W fun e w' => e = .returned (.bool (q x)) ∧ Below W.heap.size W w'
set_option maxHeartbeats 2000000 in
theorem indexL_any (fid : Nat) (lb : Array Value) (eg : ∀ args w, (callFunc fid args).run Tryz.prog w = .ok (.enter fid args) w) (q : List Int → Bool) (A : Option Addr) (cap : Nat) (xs : List (List Int)) (w : World) (h : Sl 1 (rSl 1 rInt) w w.heap.size A xs) (hf : FnL w.heap.size fid lb q xs w) :
  Calls Tryz.prog 54 #[.slice A xs.length cap, .func (.func fid) #[] lb] w fun e w' => e = .returned (.int .i64 (idxG q xs)) ∧ Below w.heap.size w w' := by
 have hl := h.len
 replace hf := hide hf
 go_enter Tryz.func54, Tryz.ntmps54
 go_wp2
 go_loopw [5, 8] (fun _ i wr => ∃ k : Nat, k ≤ xs.length ∧ i = .int .i64 k ∧ Hid ((xs.take k).any q = false) ∧ Hid (Below w.heap.size w wr)) (fun _ i _ => xs.length - (intOf i).toNat)
 case atStart => exact ⟨0, Nat.zero_le _, rfl, hide (by simp), hide (Below.refl _ _)⟩
 case round =>
  obtain ⟨k, hk, rfl, hc, hbr⟩ := hrel
  by_cases hlt : k < xs.length
  ·have hltz : (k : Int) < (xs.length : Int) := by omega
   obtain ⟨b, o, A', c', rfl, hb, hcell, hs⟩ := h.ints hlt
   have hcall := hf.out xs[k] wr A' c' (List.getElem_mem _) hbr.out ((hs.below sta_int hbr.out).more sta_int hbr.out.size)
   have x0 := (hbr.out.cell (p := ⟨b, o + k, none⟩) hb).trans hcell
   clear h hcell hs
   cases hp : q xs[k] with
   | true =>
    rw [hp] at hcall
    have hv := hide (idxG_at hlt hc.out hp)
    clear hp
    replace hcall := hide hcall
    go_wp2_with (go_at_fn fid; refine hcall.out.mono ?_; rintro e w' ⟨rfl, hb1⟩)
    go_ret
    exact ⟨ret_int hv.out.symm, hbr.out.trans (hb1.mono hbr.out.size)⟩
   | false =>
    rw [hp] at hcall
    have hv := hide (any_take_succ hlt hc.out hp)
    clear hp
    replace hcall := hide hcall
    go_wp2_with (go_at_fn fid; refine hcall.out.mono ?_; rintro e w' ⟨rfl, hb1⟩)
    go_roundw
    case rel => exact ⟨k + 1, by omega, by go_num, hv, hide (hbr.out.trans (hb1.mono hbr.out.size))⟩
    case measure => simp [intOf]; omega
  ·have hv := hide (idxG_no (any_of_take hk hlt hc.out))
   go_wp2
   go_ret
   exact ⟨ret_int hv.out.symm, hbr.out⟩
theorem notHead_any (A : Option Addr) (c : Nat) (x : List Int) (w : World) (h : Sl 1 rInt w w.heap.size A x) : Calls Tryz.prog 23 #[.slice A x.length c] w fun e w' => e = .returned (.bool (!headB x)) ∧ Below w.heap.size w w' := by
 have hC := hide (mayHead_any A c x w h)
 clear h
 go_enter Tryz.func23, Tryz.ntmps23
 go_wp2_with (go_at_call 24; refine hC.out.mono ?_; rintro e w' ⟨rfl, hb⟩)
 go_ret
 exact ⟨rfl, hb⟩
set_option maxHeartbeats 1000000 in
theorem heads_any (A : Option Addr) (cap : Nat) (xs : List (List Int)) (w : World) (h : Sl 1 (rSl 1 rInt) w w.heap.size A xs) :
  Calls Tryz.prog 22 #[.slice A xs.length cap, .func (.func 23) #[] #[]] w fun e w' => e = .returned (.bool (!xs.all headB)) ∧ Below w.heap.size w w' := by
 have hF : FnL w.heap.size 23 #[] (fun x => !headB x) xs w := fun x W A c _ _ hs => notHead_any A c x W hs
 have hX := indexL_any 23 #[] enters_m1 (fun x => !headB x) A cap xs w h hF
 have hv := idxG_nonneg (fun x => !headB x) xs
 rw [any_not'] at hv
 generalize idxG (fun x => !headB x) xs = r at hX hv
 replace hX := hide hX
 replace hv := hide hv
 clear hF h
 go_enter Tryz.func22, Tryz.ntmps22
 go_wp2_with (go_at_call 54; refine hX.out.mono ?_; rintro e w' ⟨rfl, hb⟩)
 go_ret
 exact ⟨ret_b hv.out, hb⟩
end Go.Proofs.YtmfpbahifhndjaaGreat

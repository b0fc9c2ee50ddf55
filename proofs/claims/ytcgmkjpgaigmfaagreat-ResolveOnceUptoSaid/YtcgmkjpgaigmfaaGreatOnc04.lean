import Derived.Test.YtcgmkjpgaigmfaaGreatOnc03
set_option linter.all false
/-! Layer 4's Great: it answers, and lays nothing that lay. -/
namespace Go.Proofs.YtcgmkjpgaigmfaaGreat
open Go.RowKit
mutual
def weighE : Ex → Int
  | .mk _ _ head name _ _ args => weighA (wrap64 (wrap64 (1 + head.size) + name.size)) args
def weighA (n : Int) : List Ex → Int
  | [] => n
  | x :: l => weighA (wrap64 (n + weighE x)) l
end
theorem weighA_snoc (l : List Ex) (x : Ex) : ∀ n : Int, weighA n (l ++ [x]) = wrap64 (weighA n l + weighE x) := by
  induction l with
  | nil => intro n; simp only [List.nil_append, weighA]
  | cons y l ih => intro n; simp only [List.cons_append, weighA, ih]
theorem weighA_take {l : List Ex} {k : Nat} (hk : k < l.length) (n : Int) : weighA n (l.take (k + 1)) = wrap64 (weighA n (l.take k) + weighE l[k]) := by
  rw [List.take_succ_eq_append_getElem hk, weighA_snoc]
set_option maxHeartbeats 1000000 in
theorem weigh_any (e : Ex) : ∀ (cs : List Value) (w : World), rEx w w.heap.size cs e → Calls Tryz.prog 18 #[.agg cs.toArray] w fun r w' => r = .returned (.int .i64 (weighE e)) ∧ Below w.heap.size w w' := by
  induction e using Ex.ind with
  | h op lit head name hi lo args ih =>
    intro cs w h
    obtain ⟨A, cap, rfl, -, -, -, -, -, -, hs⟩ := RE.inv h
    have hl := hs.len
    replace ih := hide ih
    clear h
    show Calls _ _ #[.agg #[.int .u8 op, .int .i64 lit.1, .int .u64 lit.2.1, .int .u64 lit.2.2, .string head, .string name, .int .i64 hi, .int .i64 lo, .slice A args.length cap]] _ _
    obtain ⟨wb, hwb, hsz, hw, hcb, -⟩ := box1 w #[.int .u8 op, .int .i64 lit.1, .int .u64 lit.2.1, .int .u64 lit.2.2, .string head, .string name, .int .i64 hi, .int .i64 lo, .slice A args.length cap] 68
    have y4 : wb.cell? ⟨w.heap.size, 4, none⟩ = some (.string head) := hcb 4
    have y5 : wb.cell? ⟨w.heap.size, 5, none⟩ = some (.string name) := hcb 5
    have y8 : wb.cell? ⟨w.heap.size, 8, none⟩ = some (.slice A args.length cap) := hcb 8
    have hS := hide (hs.below sta_ex hw)
    have hv := hide (show weighE (.mk op lit head name hi lo args) = weighA (wrap64 (wrap64 (1 + head.size) + name.size)) args from by simp only [weighE])
    replace hw := hide hw
    clear hcb hs
    go_enter Tryz.func18, Tryz.ntmps18
    go_wp2
    go_loopw [3, 4] (fun n i wr => ∃ k : Nat, k ≤ args.length ∧ i = .int .i64 k ∧ n = .int .i64 (weighA (wrap64 (wrap64 (1 + head.size) + name.size)) (args.take k)) ∧ Hid (Below (w.heap.size + 1) wb wr) ∧ w.heap.size + 1 ≤ wr.heap.size) (fun _ i _ => args.length - (intOf i).toNat)
    case atStart => exact ⟨0, Nat.zero_le _, rfl, by simp [weighA], hide (Below.refl _ _), by omega⟩
    case round =>
      obtain ⟨k, hk, rfl, rfl, hbr, hzr⟩ := hrel
      have hg := gcell' hbr.out hzr
      have hc := bcell' hbr.out
      by_cases hlt : k < args.length
      · obtain ⟨b, o, ecs, hA, hb, hel, hcell, hr⟩ := hS.out.2 k _ (List.getElem?_eq_getElem hlt)
        subst hA
        have hltz : (k : Int) < (args.length : Int) := by omega
        match ecs, hel with
        | [a0, a1, a2, a3, a4, a5, a6, a7, a8], _ =>
          have x0 : wb.cell? ⟨b, o + k * 9, none⟩ = some a0 := by simpa using hcell 0 a0 rfl
          have x1 : wb.cell? ⟨b, o + k * 9 + 1, none⟩ = some a1 := by simpa using hcell 1 a1 rfl
          have x2 : wb.cell? ⟨b, o + k * 9 + 2, none⟩ = some a2 := by simpa using hcell 2 a2 rfl
          have x3 : wb.cell? ⟨b, o + k * 9 + 3, none⟩ = some a3 := by simpa using hcell 3 a3 rfl
          have x4 : wb.cell? ⟨b, o + k * 9 + 4, none⟩ = some a4 := by simpa using hcell 4 a4 rfl
          have x5 : wb.cell? ⟨b, o + k * 9 + 5, none⟩ = some a5 := by simpa using hcell 5 a5 rfl
          have x6 : wb.cell? ⟨b, o + k * 9 + 6, none⟩ = some a6 := by simpa using hcell 6 a6 rfl
          have x7 : wb.cell? ⟨b, o + k * 9 + 7, none⟩ = some a7 := by simpa using hcell 7 a7 rfl
          have x8 : wb.cell? ⟨b, o + k * 9 + 8, none⟩ = some a8 := by simpa using hcell 8 a8 rfl
          have hcall := ih.out _ (List.getElem_mem hlt) [a0, a1, a2, a3, a4, a5, a6, a7, a8] wr (sta_ex.more (sta_ex.keep hr fun q hq => hbr.out.cell (Nat.lt_succ_of_lt hq)) (by omega))
          have ht := hide (weighA_take hlt (wrap64 (wrap64 (1 + head.size) + name.size)))
          clear hcell hr
          go_wp2_with (go_at_call 18; refine hcall.mono ?_; rintro e w' ⟨rfl, hw1⟩)
          go_roundw
          case rel => exact ⟨k + 1, by omega, by go_num, by rw [ht.out], hide (hbr.out.trans (hw1.mono hzr)), by have := hw1.size; omega⟩
          case measure => simp [intOf]; omega
      · go_wp2
        go_ret
        rw [hv.out, List.take_of_length_le (by omega)]
        exact ⟨rfl, hw.out.trans (hbr.out.mono (Nat.le_succ _))⟩
mutual
def weighS (n : Int) : St → Int
  | .mk _ head name e thn els => wrap64 (wrap64 (wrap64 (wrap64 (wrap64 (wrap64 (n + 1) + head.size) + name.size) + weighE e) + weighL 0 thn) + weighL 0 els)
def weighL (n : Int) : List St → Int
  | [] => n
  | s :: l => weighL (weighS n s) l
end
theorem weighL_snoc (l : List St) (x : St) : ∀ n : Int, weighL n (l ++ [x]) = weighS (weighL n l) x := by
  induction l with
  | nil => intro n; simp only [List.nil_append, weighL]
  | cons y l ih => intro n; simp only [List.cons_append, weighL, ih]
theorem weighL_take {l : List St} {k : Nat} (hk : k < l.length) (n : Int) : weighL n (l.take (k + 1)) = weighS (weighL n (l.take k)) l[k] := by
  rw [List.take_succ_eq_append_getElem hk, weighL_snoc]
def WeighsIs (l : List St) : Prop := ∀ (A : Option Addr) (cap : Nat) (w : World), Sl 14 rSt w w.heap.size A l → Calls Tryz.prog 16 #[.slice A l.length cap] w fun r w' => r = .returned (.int .i64 (weighL 0 l)) ∧ Below w.heap.size w w'
def WeighsIn : St → Prop
  | .mk _ _ _ _ thn els => WeighsIs thn ∧ WeighsIs els
theorem Sl.grown {α : Type} {R : CR α} {k : Nat} {w wr : World} {A : Option Addr} {xs : List α} (sR : Sta R) (h : Sl k R w w.heap.size A xs) (hb : Below w.heap.size w wr) (d : Nat) (os : Array Obj) :
    Sl k R (Go.Sort.grow (redrawn wr d) os) (Go.Sort.grow (redrawn wr d) os).heap.size A xs := by
  have h1 := hb.trans ((below_regrown wr d os).mono hb.size)
  exact (h.below sR h1).more sR h1.size
set_option maxHeartbeats 1000000 in
theorem weighs_of (l : List St) (ih : ∀ x ∈ l, WeighsIn x) : WeighsIs l := by
  intro A cap w hS
  have hl := hS.len
  replace ih := hide ih
  replace hS := hide hS
  go_enter Tryz.func16, Tryz.ntmps16
  go_wp2
  go_loopw [3, 4] (fun n i wr => ∃ k : Nat, k ≤ l.length ∧ i = .int .i64 k ∧ n = .int .i64 (weighL 0 (l.take k)) ∧ Hid (Below w.heap.size w wr)) (fun _ i _ => l.length - (intOf i).toNat)
  case atStart => exact ⟨0, Nat.zero_le _, rfl, by simp [weighL], hide (Below.refl _ _)⟩
  case round =>
    obtain ⟨k, hk, rfl, rfl, hbr⟩ := hrel
    have hg := gcell' hbr.out hbr.out.size
    have hc := bcell' hbr.out
    by_cases hlt : k < l.length
    · obtain ⟨b, o, ecs, hA, hb, hel, hcell, hr⟩ := hS.out.2 k _ (List.getElem?_eq_getElem hlt)
      subst hA
      have hltz : (k : Int) < (l.length : Int) := by omega
      have ht := weighL_take hlt 0
      have hin := ih.out _ (List.getElem_mem hlt)
      generalize hx : l[k] = x at hr ht hin
      obtain ⟨kind, head, name, e, thn, els⟩ := x
      obtain ⟨es, A1, c1, A2, c2, rfl, h0, h1, h2, he, hT, hE⟩ := RS.inv hr
      have l1 := hT.len
      have l2 := hE.len
      simp only [weighS] at ht
      have hes : es.length = 9 := by simpa [stC] using hel
      match es, hes with
      | [e0, e1, e2, e3, e4, e5, e6, e7, e8], _ =>
        have x0 : w.cell? ⟨b, o + k * 14, none⟩ = some (.int .u8 kind) := by simpa using hcell 0 _ rfl
        have x1 : w.cell? ⟨b, o + k * 14 + 1, none⟩ = some (.string head) := hcell 1 _ rfl
        have x2 : w.cell? ⟨b, o + k * 14 + 2, none⟩ = some (.string name) := hcell 2 _ rfl
        have x3 : w.cell? ⟨b, o + k * 14 + 3, none⟩ = some e0 := hcell 3 _ rfl
        have x4 : w.cell? ⟨b, o + k * 14 + 4, none⟩ = some e1 := hcell 4 _ rfl
        have x5 : w.cell? ⟨b, o + k * 14 + 5, none⟩ = some e2 := hcell 5 _ rfl
        have x6 : w.cell? ⟨b, o + k * 14 + 6, none⟩ = some e3 := hcell 6 _ rfl
        have x7 : w.cell? ⟨b, o + k * 14 + 7, none⟩ = some e4 := hcell 7 _ rfl
        have x8 : w.cell? ⟨b, o + k * 14 + 8, none⟩ = some e5 := hcell 8 _ rfl
        have x9 : w.cell? ⟨b, o + k * 14 + 9, none⟩ = some e6 := hcell 9 _ rfl
        have x10 : w.cell? ⟨b, o + k * 14 + 10, none⟩ = some e7 := hcell 10 _ rfl
        have x11 : w.cell? ⟨b, o + k * 14 + 11, none⟩ = some e8 := hcell 11 _ rfl
        have x12 : w.cell? ⟨b, o + k * 14 + 12, none⟩ = some (.slice A1 thn.length c1) := hcell 12 _ rfl
        have x13 : w.cell? ⟨b, o + k * 14 + 13, none⟩ = some (.slice A2 els.length c2) := hcell 13 _ rfl
        have hEx : ∀ d os, Calls Tryz.prog 18 #[.agg #[e0, e1, e2, e3, e4, e5, e6, e7, e8]] (Go.Sort.grow (redrawn wr d) os) fun r w' => r = .returned (.int .i64 (weighE e)) ∧ Below (Go.Sort.grow (redrawn wr d) os).heap.size (Go.Sort.grow (redrawn wr d) os) w' := fun d os =>
          weigh_any e [e0, e1, e2, e3, e4, e5, e6, e7, e8] _ (sta_ex.more (sta_ex.keep he fun q hq => (below_grow hbr.out hbr.out.size d os).cell hq) (by have := gsize wr d os; have := hbr.out.size; omega))
        have hTx : ∀ d os, Calls Tryz.prog 16 #[.slice A1 thn.length c1] (Go.Sort.grow (redrawn wr d) os) fun r w' => r = .returned (.int .i64 (weighL 0 thn)) ∧ Below (Go.Sort.grow (redrawn wr d) os).heap.size (Go.Sort.grow (redrawn wr d) os) w' := fun d os =>
          hin.1 _ _ _ (hT.grown sta_st hbr.out d os)
        have hLx : ∀ d os, Calls Tryz.prog 16 #[.slice A2 els.length c2] (Go.Sort.grow (redrawn wr d) os) fun r w' => r = .returned (.int .i64 (weighL 0 els)) ∧ Below (Go.Sort.grow (redrawn wr d) os).heap.size (Go.Sort.grow (redrawn wr d) os) w' := fun d os =>
          hin.2 _ _ _ (hE.grown sta_st hbr.out d os)
        generalize weighE e = ze at ht hEx
        generalize weighL 0 thn = zt at ht hTx
        generalize weighL 0 els = zs at ht hLx
        generalize thn.length = n1 at *
        generalize els.length = n2 at *
        replace hEx := fun d os => hide (hEx d os)
        replace hTx := fun d os => hide (hTx d os)
        replace hLx := fun d os => hide (hLx d os)
        replace ht := hide ht
        clear hin hcell hr hT hE he hel hx h0 h1 h2
        go_wp2_with fail
        refine wp_region_quiet_below (by kernel_rfl) (by kernel_rfl) ?_
        repeat (any_goals (first | go_big_quiet_step (first | (go_at_call 18; exact Calls.regrown_of (hEx _ _).out) | (go_at_call 16; first | with_reducible exact Calls.regrown_of (hTx _ _).out | with_reducible exact Calls.regrown_of (hLx _ _).out)) | quiet_step (first | (go_at_call 18; exact Calls.regrown_of (hEx _ _).out) | (go_at_call 16; first | with_reducible exact Calls.regrown_of (hTx _ _).out | with_reducible exact Calls.regrown_of (hLx _ _).out))))
        refine wpQuiet_nil ?_
        intro w1 hw1
        replace hw1 := below_of_regrown hw1
        go_wp2
        go_roundw
        case rel => exact ⟨k + 1, by omega, by go_num, by rw [ht.out], hide (hbr.out.trans (hw1.mono hbr.out.size))⟩
        case measure => simp [intOf]; omega
    · go_wp2
      go_ret
      rw [List.take_of_length_le (by omega)]
      exact ⟨rfl, hbr.out⟩
theorem weighs_in (s : St) : WeighsIn s := by
  induction s using St.ind with
  | h kind head name e thn els ih1 ih2 => exact ⟨weighs_of thn ih1, weighs_of els ih2⟩
theorem weighs_any (l : List St) : WeighsIs l := weighs_of l fun x _ => weighs_in x
end Go.Proofs.YtcgmkjpgaigmfaaGreat

import Derived.Test.YtcgmkjpgaigmfaaGreatChk03
set_option linter.all false
/-! Layer 4's Great: it answers, and lays nothing that lay. -/
namespace Go.Proofs.YtcgmkjpgaigmfaaGreat
open Go.RowKit
mutual
def weighE : Ex → Int
 | .mk _ _ head name _ _ args => weighA (wrap64 (wrap64 (1 + head.size) + name.size)) args
def weighA (n : Int) : List Ex → Int
 | [] => n
 | x :: l => weighA (wrap64 (n + weighE x)) l
end
theorem weighA_snoc (l : List Ex) (x : Ex) : ∀ n : Int, weighA n (l ++ [x]) = wrap64 (weighA n l + weighE x) := by
 induction l with
 | nil => intro n; simp only [List.nil_append, weighA]
 | cons y l ih => intro n; simp only [List.cons_append, weighA, ih]
theorem weighA_take {l : List Ex} {k : Nat} (hk : k < l.length) (n : Int) : weighA n (l.take (k + 1)) = wrap64 (weighA n (l.take k) + weighE l[k]) := by
 rw [List.take_succ_eq_append_getElem hk, weighA_snoc]
set_option maxHeartbeats 1000000 in
theorem weigh_any (e : Ex) : ∀ (cs : List Value) (w : World), rEx w w.heap.size cs e → Calls Tryz.prog 18 #[.agg cs.toArray] w fun r w' => r = .returned (.int .i64 (weighE e)) ∧ Below w.heap.size w w' := by
 induction e using Ex.ind with
 | h op lit head name hi lo args ih =>
  intro cs w h
  obtain ⟨A, cap, rfl, -, -, -, -, -, -, hs⟩ := RE.inv h
  have hl := hs.len
  replace ih := hide ih
  clear h
  show Calls _ _ #[.agg #[.int .u8 op, .int .i64 lit.1, .int .u64 lit.2.1, .int .u64 lit.2.2, .string head, .string name, .int .i64 hi, .int .i64 lo, .slice A args.length cap]] _ _
  obtain ⟨wb, hwb, hsz, hw, hcb, -⟩ := box1 w #[.int .u8 op, .int .i64 lit.1, .int .u64 lit.2.1, .int .u64 lit.2.2, .string head, .string name, .int .i64 hi, .int .i64 lo, .slice A args.length cap] 68
  have y4 : wb.cell? ⟨w.heap.size, 4, none⟩ = some (.string head) := hcb 4
  have y5 : wb.cell? ⟨w.heap.size, 5, none⟩ = some (.string name) := hcb 5
  have y8 : wb.cell? ⟨w.heap.size, 8, none⟩ = some (.slice A args.length cap) := hcb 8
  have hS := hide (hs.below sta_ex hw)
  have hv := hide (show weighE (.mk op lit head name hi lo args) = weighA (wrap64 (wrap64 (1 + head.size) + name.size)) args from by simp only [weighE])
  replace hw := hide hw
  clear hcb hs
  go_enter Tryz.func18, Tryz.ntmps18
  go_wp2
  go_loopw [3, 4] (fun n i wr => ∃ k : Nat, k ≤ args.length ∧ i = .int .i64 k ∧ n = .int .i64 (weighA (wrap64 (wrap64 (1 + head.size) + name.size)) (args.take k)) ∧ Hid (Below (w.heap.size + 1) wb wr) ∧ w.heap.size + 1 ≤ wr.heap.size) (fun _ i _ => args.length - (intOf i).toNat)
  case atStart => exact ⟨0, Nat.zero_le _, rfl, by simp [weighA], hide (Below.refl _ _), by omega⟩
  case round =>
   obtain ⟨k, hk, rfl, rfl, hbr, hzr⟩ := hrel
   have hg := gcell' hbr.out hzr
   have hc := bcell' hbr.out
   by_cases hlt : k < args.length
   ·obtain ⟨b, o, ecs, hA, hb, hel, hcell, hr⟩ := hS.out.2 k _ (List.getElem?_eq_getElem hlt)
    subst hA
    have hltz : (k : Int) < (args.length : Int) := by omega
    match ecs, hel with
    | [a0, a1, a2, a3, a4, a5, a6, a7, a8], _ =>
     have x0 : wb.cell? ⟨b, o + k * 9, none⟩ = some a0 := by simpa using hcell 0 a0 rfl
     have x1 : wb.cell? ⟨b, o + k * 9 + 1, none⟩ = some a1 := by simpa using hcell 1 a1 rfl
     have x2 : wb.cell? ⟨b, o + k * 9 + 2, none⟩ = some a2 := by simpa using hcell 2 a2 rfl
     have x3 : wb.cell? ⟨b, o + k * 9 + 3, none⟩ = some a3 := by simpa using hcell 3 a3 rfl
     have x4 : wb.cell? ⟨b, o + k * 9 + 4, none⟩ = some a4 := by simpa using hcell 4 a4 rfl
     have x5 : wb.cell? ⟨b, o + k * 9 + 5, none⟩ = some a5 := by simpa using hcell 5 a5 rfl
     have x6 : wb.cell? ⟨b, o + k * 9 + 6, none⟩ = some a6 := by simpa using hcell 6 a6 rfl
     have x7 : wb.cell? ⟨b, o + k * 9 + 7, none⟩ = some a7 := by simpa using hcell 7 a7 rfl
     have x8 : wb.cell? ⟨b, o + k * 9 + 8, none⟩ = some a8 := by simpa using hcell 8 a8 rfl
     have hcall := ih.out _ (List.getElem_mem hlt) [a0, a1, a2, a3, a4, a5, a6, a7, a8] wr (sta_ex.more (sta_ex.keep hr fun q hq => hbr.out.cell (Nat.lt_succ_of_lt hq)) (by omega))
     have ht := hide (weighA_take hlt (wrap64 (wrap64 (1 + head.size) + name.size)))
     clear hcell hr
     go_wp2_with (go_at_call 18; refine hcall.mono ?_; rintro e w' ⟨rfl, hw1⟩)
     go_roundw
     case rel => exact ⟨k + 1, by omega, by go_num, by rw [ht.out], hide (hbr.out.trans (hw1.mono hzr)), by have := hw1.size; omega⟩
     case measure => simp [intOf]; omega
   ·go_wp2
    go_ret
    rw [hv.out, List.take_of_length_le (by omega)]
    exact ⟨rfl, hw.out.trans (hbr.out.mono (Nat.le_succ _))⟩
mutual
def weighS (n : Int) : St → Int
 | .mk _ head name e thn els => wrap64 (wrap64 (wrap64 (wrap64 (wrap64 (wrap64 (n + 1) + head.size) + name.size) + weighE e) + weighL 0 thn) + weighL 0 els)
def weighL (n : Int) : List St → Int
 | [] => n
 | s :: l => weighL (weighS n s) l
end
theorem weighL_snoc (l : List St) (x : St) : ∀ n : Int, weighL n (l ++ [x]) = weighS (weighL n l) x := by
 induction l with
 | nil => intro n; simp only [List.nil_append, weighL]
 | cons y l ih => intro n; simp only [List.cons_append, weighL, ih]
theorem weighL_take {l : List St} {k : Nat} (hk : k < l.length) (n : Int) : weighL n (l.take (k + 1)) = weighS (weighL n (l.take k)) l[k] := by
 rw [List.take_succ_eq_append_getElem hk, weighL_snoc]
def WeighsIs (l : List St) : Prop := ∀ (A : Option Addr) (cap : Nat) (w : World), Sl 14 rSt w w.heap.size A l → Calls Tryz.prog 16 #[.slice A l.length cap] w fun r w' => r = .returned (.int .i64 (weighL 0 l)) ∧ Below w.heap.size w w'
def WeighsIn : St → Prop
 | .mk _ _ _ _ thn els => WeighsIs thn ∧ WeighsIs els
theorem Sl.grown {α : Type} {R : CR α} {k : Nat} {w wr : World} {A : Option Addr} {xs : List α} (sR : Sta R) (h : Sl k R w w.heap.size A xs) (hb : Below w.heap.size w wr) (d : Nat) (os : Array Obj) :
  Sl k R (Go.Sort.grow (redrawn wr d) os) (Go.Sort.grow (redrawn wr d) os).heap.size A xs := by
 have h1 := hb.trans ((below_regrown wr d os).mono hb.size)
 exact (h.below sR h1).more sR h1.size
set_option maxHeartbeats 1000000 in
theorem weighs_of (l : List St) (ih : ∀ x ∈ l, WeighsIn x) : WeighsIs l := by
 intro A cap w hS
 have hl := hS.len
 replace ih := hide ih
 replace hS := hide hS
 go_enter Tryz.func16, Tryz.ntmps16
 go_wp2
 go_loopw [3, 4] (fun n i wr => ∃ k : Nat, k ≤ l.length ∧ i = .int .i64 k ∧ n = .int .i64 (weighL 0 (l.take k)) ∧ Hid (Below w.heap.size w wr)) (fun _ i _ => l.length - (intOf i).toNat)
 case atStart => exact ⟨0, Nat.zero_le _, rfl, by simp [weighL], hide (Below.refl _ _)⟩
 case round =>
  obtain ⟨k, hk, rfl, rfl, hbr⟩ := hrel
  have hg := gcell' hbr.out hbr.out.size
  have hc := bcell' hbr.out
  by_cases hlt : k < l.length
  ·obtain ⟨b, o, ecs, hA, hb, hel, hcell, hr⟩ := hS.out.2 k _ (List.getElem?_eq_getElem hlt)
   subst hA
   have hltz : (k : Int) < (l.length : Int) := by omega
   have ht := weighL_take hlt 0
   have hin := ih.out _ (List.getElem_mem hlt)
   generalize hx : l[k] = x at hr ht hin
   obtain ⟨kind, head, name, e, thn, els⟩ := x
   obtain ⟨es, A1, c1, A2, c2, rfl, h0, h1, h2, he, hT, hE⟩ := RS.inv hr
   have l1 := hT.len
   have l2 := hE.len
   simp only [weighS] at ht
   have hes : es.length = 9 := by simpa [stC] using hel
   match es, hes with
   | [e0, e1, e2, e3, e4, e5, e6, e7, e8], _ =>
    have x0 : w.cell? ⟨b, o + k * 14, none⟩ = some (.int .u8 kind) := by simpa using hcell 0 _ rfl
    have x1 : w.cell? ⟨b, o + k * 14 + 1, none⟩ = some (.string head) := hcell 1 _ rfl
    have x2 : w.cell? ⟨b, o + k * 14 + 2, none⟩ = some (.string name) := hcell 2 _ rfl
    have x3 : w.cell? ⟨b, o + k * 14 + 3, none⟩ = some e0 := hcell 3 _ rfl
    have x4 : w.cell? ⟨b, o + k * 14 + 4, none⟩ = some e1 := hcell 4 _ rfl
    have x5 : w.cell? ⟨b, o + k * 14 + 5, none⟩ = some e2 := hcell 5 _ rfl
    have x6 : w.cell? ⟨b, o + k * 14 + 6, none⟩ = some e3 := hcell 6 _ rfl
    have x7 : w.cell? ⟨b, o + k * 14 + 7, none⟩ = some e4 := hcell 7 _ rfl
    have x8 : w.cell? ⟨b, o + k * 14 + 8, none⟩ = some e5 := hcell 8 _ rfl
    have x9 : w.cell? ⟨b, o + k * 14 + 9, none⟩ = some e6 := hcell 9 _ rfl
    have x10 : w.cell? ⟨b, o + k * 14 + 10, none⟩ = some e7 := hcell 10 _ rfl
    have x11 : w.cell? ⟨b, o + k * 14 + 11, none⟩ = some e8 := hcell 11 _ rfl
    have x12 : w.cell? ⟨b, o + k * 14 + 12, none⟩ = some (.slice A1 thn.length c1) := hcell 12 _ rfl
    have x13 : w.cell? ⟨b, o + k * 14 + 13, none⟩ = some (.slice A2 els.length c2) := hcell 13 _ rfl
    have hEx : ∀ d os, Calls Tryz.prog 18 #[.agg #[e0, e1, e2, e3, e4, e5, e6, e7, e8]] (Go.Sort.grow (redrawn wr d) os) fun r w' => r = .returned (.int .i64 (weighE e)) ∧ Below (Go.Sort.grow (redrawn wr d) os).heap.size (Go.Sort.grow (redrawn wr d) os) w' := fun d os =>
     weigh_any e [e0, e1, e2, e3, e4, e5, e6, e7, e8] _ (sta_ex.more (sta_ex.keep he fun q hq => (below_grow hbr.out hbr.out.size d os).cell hq) (by have := gsize wr d os; have := hbr.out.size; omega))
    have hTx : ∀ d os, Calls Tryz.prog 16 #[.slice A1 thn.length c1] (Go.Sort.grow (redrawn wr d) os) fun r w' => r = .returned (.int .i64 (weighL 0 thn)) ∧ Below (Go.Sort.grow (redrawn wr d) os).heap.size (Go.Sort.grow (redrawn wr d) os) w' := fun d os =>
     hin.1 _ _ _ (hT.grown sta_st hbr.out d os)
    have hLx : ∀ d os, Calls Tryz.prog 16 #[.slice A2 els.length c2] (Go.Sort.grow (redrawn wr d) os) fun r w' => r = .returned (.int .i64 (weighL 0 els)) ∧ Below (Go.Sort.grow (redrawn wr d) os).heap.size (Go.Sort.grow (redrawn wr d) os) w' := fun d os =>
     hin.2 _ _ _ (hE.grown sta_st hbr.out d os)
    generalize weighE e = ze at ht hEx
    generalize weighL 0 thn = zt at ht hTx
    generalize weighL 0 els = zs at ht hLx
    generalize thn.length = n1 at *
    generalize els.length = n2 at *
    replace hEx := fun d os => hide (hEx d os)
    replace hTx := fun d os => hide (hTx d os)
    replace hLx := fun d os => hide (hLx d os)
    replace ht := hide ht
    clear hin hcell hr hT hE he hel hx h0 h1 h2
    go_wp2_with fail
    refine wp_region_quiet_below (by kernel_rfl) (by kernel_rfl) ?_
    repeat (any_goals (first | go_big_quiet_step (first | (go_at_call 18; exact Calls.regrown_of (hEx _ _).out) | (go_at_call 16; first | with_reducible exact Calls.regrown_of (hTx _ _).out | with_reducible exact Calls.regrown_of (hLx _ _).out)) | quiet_step (first | (go_at_call 18; exact Calls.regrown_of (hEx _ _).out) | (go_at_call 16; first | with_reducible exact Calls.regrown_of (hTx _ _).out | with_reducible exact Calls.regrown_of (hLx _ _).out))))
    refine wpQuiet_nil ?_
    intro w1 hw1
    replace hw1 := below_of_regrown hw1
    go_wp2
    go_roundw
    case rel => exact ⟨k + 1, by omega, by go_num, by rw [ht.out], hide (hbr.out.trans (hw1.mono hbr.out.size))⟩
    case measure => simp [intOf]; omega
  ·go_wp2
   go_ret
   rw [List.take_of_length_le (by omega)]
   exact ⟨rfl, hbr.out⟩
theorem weighs_in (s : St) : WeighsIn s := by
 induction s using St.ind with
 | h kind head name e thn els ih1 ih2 => exact ⟨weighs_of thn ih1, weighs_of els ih2⟩
theorem weighs_any (l : List St) : WeighsIs l := weighs_of l fun x _ => weighs_in x
end Go.Proofs.YtcgmkjpgaigmfaaGreat
/-! Layer 4's Great: names, fields, and the whole. -/
namespace Go.Proofs.YtcgmkjpgaigmfaaGreat
open Go.RowKit
def lenN (n : Int) : List ByteArray → Int
 | [] => n
 | s :: l => lenN (wrap64 (n + s.size)) l
theorem lenN_snoc (l : List ByteArray) (x : ByteArray) : ∀ n : Int, lenN n (l ++ [x]) = wrap64 (lenN n l + x.size) := by
 induction l with
 | nil => intro n; simp only [List.nil_append, lenN]
 | cons y l ih => intro n; simp only [List.cons_append, lenN, ih]
theorem lenN_take {l : List ByteArray} {k : Nat} (hk : k < l.length) (n : Int) : lenN n (l.take (k + 1)) = wrap64 (lenN n (l.take k) + l[k].size) := by
 rw [List.take_succ_eq_append_getElem hk, lenN_snoc]
def lenF (n : Int) : List Fd → Int
 | [] => n
 | s :: l => lenF (wrap64 (n + s.1.size)) l
theorem lenF_snoc (l : List Fd) (x : Fd) : ∀ n : Int, lenF n (l ++ [x]) = wrap64 (lenF n l + x.1.size) := by
 induction l with
 | nil => intro n; simp only [List.nil_append, lenF]
 | cons y l ih => intro n; simp only [List.cons_append, lenF, ih]
theorem lenF_take {l : List Fd} {k : Nat} (hk : k < l.length) (n : Int) : lenF n (l.take (k + 1)) = wrap64 (lenF n (l.take k) + l[k].1.size) := by
 rw [List.take_succ_eq_append_getElem hk, lenF_snoc]
set_option maxHeartbeats 1000000 in
theorem names04_any (l : List ByteArray) (A : Option Addr) (cap : Nat) (w : World) (hS : Sl 1 rStr w w.heap.size A l) :
  Calls Tryz.prog 17 #[.slice A l.length cap] w fun r w' => r = .returned (.int .i64 (lenN l.length l)) ∧ Below w.heap.size w w' := by
 have hl := hS.len
 go_enter Tryz.func17, Tryz.ntmps17
 go_wp2
 go_loopw [3, 4] (fun n i wr => ∃ k : Nat, k ≤ l.length ∧ i = .int .i64 k ∧ n = .int .i64 (lenN l.length (l.take k)) ∧ wr = w) (fun _ i _ => l.length - (intOf i).toNat)
 case atStart => exact ⟨0, Nat.zero_le _, rfl, by simp [lenN], rfl⟩
 case round =>
  obtain ⟨k, hk, rfl, rfl, rfl⟩ := hrel
  by_cases hlt : k < l.length
  ·obtain ⟨b, o, rfl, hb, hcell, hz⟩ := hS.str hlt
   have hltz : (k : Int) < (l.length : Int) := by omega
   have ht := hide (lenN_take hlt l.length)
   go_wp2
   go_roundw
   case rel => exact ⟨k + 1, by omega, by go_num, by rw [ht.out], by trivial⟩
   case measure => simp [intOf]; omega
  ·go_wp2
   go_ret
   rw [List.take_of_length_le (by omega)]
   exact ⟨rfl, Below.refl _ _⟩
set_option maxHeartbeats 1000000 in
theorem fields04_any (l : List Fd) (A : Option Addr) (cap : Nat) (w : World) (hS : Sl 2 rFd w w.heap.size A l) :
  Calls Tryz.prog 15 #[.slice A l.length cap] w fun r w' => r = .returned (.int .i64 (lenF l.length l)) ∧ Below w.heap.size w w' := by
 have hl := hS.len
 go_enter Tryz.func15, Tryz.ntmps15
 go_wp2
 go_loopw [3, 4] (fun n i wr => ∃ k : Nat, k ≤ l.length ∧ i = .int .i64 k ∧ n = .int .i64 (lenF l.length (l.take k)) ∧ wr = w) (fun _ i _ => l.length - (intOf i).toNat)
 case atStart => exact ⟨0, Nat.zero_le _, rfl, by simp [lenF], rfl⟩
 case round =>
  obtain ⟨k, hk, rfl, rfl, rfl⟩ := hrel
  by_cases hlt : k < l.length
  ·obtain ⟨b, o, ecs, rfl, hb, hel, hcell, rfl, hz, hi⟩ := hS.2 k _ (List.getElem?_eq_getElem hlt)
   have hltz : (k : Int) < (l.length : Int) := by omega
   have x0 : wr.cell? ⟨b, o + k * 2, none⟩ = some (.string l[k].1) := by simpa using hcell 0 _ rfl
   have x1 : wr.cell? ⟨b, o + k * 2 + 1, none⟩ = some (.int .i64 l[k].2) := hcell 1 _ rfl
   have ht := hide (lenF_take hlt l.length)
   clear hcell
   go_wp2
   go_roundw
   case rel => exact ⟨k + 1, by omega, by go_num, by rw [ht.out], by trivial⟩
   case measure => simp [intOf]; omega
  ·go_wp2
   go_ret
   rw [List.take_of_length_le (by omega)]
   exact ⟨rfl, Below.refl _ _⟩
end Go.Proofs.YtcgmkjpgaigmfaaGreat
/-! Layer 4's Great, the whole: it answers. -/
namespace Go.Proofs.YtcgmkjpgaigmfaaGreat
open Go.RowKit
theorem Sl.grown2 {α : Type} {R : CR α} {k : Nat} {wb wr : World} {B B' : Nat} {A : Option Addr} {xs : List α} (sR : Sta R) (h : Sl k R wb B A xs) (hb : Below B' wb wr) (hB : B ≤ B') (hz : B' ≤ wr.heap.size) (d : Nat) (os : Array Obj) :
  Sl k R (Go.Sort.grow (redrawn wr d) os) (Go.Sort.grow (redrawn wr d) os).heap.size A xs :=
 (h.below sR ((below_grow hb hz d os).mono hB)).more sR (by have := gsize wr d os; omega)
set_option maxRecDepth 100000 in
set_option maxHeartbeats 4000000 in
theorem great04_any (w : World) (A1 A2 A3 A4 A5 A6 A7 : Option Addr) (p : Pg) (c1 c2 c3 c4 c5 c6 c7 : Nat) (h : PgS w w.heap.size A1 A2 A3 A4 A5 A6 A7 p) :
  Calls Tryz.prog 5 #[.agg (pgC p A1 A2 A3 A4 A5 A6 A7 c1 c2 c3 c4 c5 c6 c7).toArray] w fun r w' => (∃ g, r = .returned (.bool g)) ∧ Below w.heap.size w w' := by
 show Calls _ _ #[.agg #[.slice A1 p.headers.length c1, .slice A2 p.metas.length c2, .slice A3 p.states.length c3, .slice A4 p.actions.length c4, .slice A5 p.tables.length c5, .slice A6 p.control.length c6, .slice A7 p.emit.length c7]] _ _
 obtain ⟨wb, hwb, hsz, hw, hcb, -⟩ := box1 w #[.slice A1 p.headers.length c1, .slice A2 p.metas.length c2, .slice A3 p.states.length c3, .slice A4 p.actions.length c4, .slice A5 p.tables.length c5, .slice A6 p.control.length c6, .slice A7 p.emit.length c7] 30
 have y0 : wb.cell? ⟨w.heap.size, 0, none⟩ = some (.slice A1 p.headers.length c1) := hcb 0
 have y1 : wb.cell? ⟨w.heap.size, 1, none⟩ = some (.slice A2 p.metas.length c2) := hcb 1
 have y2 : wb.cell? ⟨w.heap.size, 2, none⟩ = some (.slice A3 p.states.length c3) := hcb 2
 have y3 : wb.cell? ⟨w.heap.size, 3, none⟩ = some (.slice A4 p.actions.length c4) := hcb 3
 have y4 : wb.cell? ⟨w.heap.size, 4, none⟩ = some (.slice A5 p.tables.length c5) := hcb 4
 have y5 : wb.cell? ⟨w.heap.size, 5, none⟩ = some (.slice A6 p.control.length c6) := hcb 5
 have y6 : wb.cell? ⟨w.heap.size, 6, none⟩ = some (.slice A7 p.emit.length c7) := hcb 6
 have l1 := h.1.len
 have l2 := h.2.len
 have l3 := h.3.len
 have l4 := h.4.len
 have l5 := h.5.len
 have l6 := h.6.len
 have l7 := h.7.len
 have hz : w.heap.size ≤ wb.heap.size := by omega
 have hb0 : Below w.heap.size wb wb := Below.refl _ _
 have hP := hide (h.below hw)
 have hM : ∀ d os, Hid (Calls Tryz.prog 15 #[.slice A2 p.metas.length c2] (Go.Sort.grow (redrawn wb d) os) _) := fun d os => hide (fields04_any p.metas A2 c2 _ (((h.2.below sta_fd hw).below sta_fd (below_grow hb0 hz d os)).more sta_fd (by have := gsize wb d os; omega)))
 have hC : ∀ d os, Hid (Calls Tryz.prog 16 #[.slice A6 p.control.length c6] (Go.Sort.grow (redrawn wb d) os) _) := fun d os => hide (weighs_any p.control A6 c6 _ (((h.6.below sta_st hw).below sta_st (below_grow hb0 hz d os)).more sta_st (by have := gsize wb d os; omega)))
 have hE : ∀ d os, Hid (Calls Tryz.prog 17 #[.slice A7 p.emit.length c7] (Go.Sort.grow (redrawn wb d) os) _) := fun d os => hide (names04_any p.emit A7 c7 _ (((h.7.below sta_str hw).below sta_str (below_grow hb0 hz d os)).more sta_str (by have := gsize wb d os; omega)))
 have hg := gcell' (show Below (w.heap.size + 1) wb wb from Below.refl _ _) (by omega)
 replace hw := hide hw
 clear hcb h
 generalize lenF _ _ = z2 at hM
 generalize weighL _ _ = z6 at hC
 generalize lenN _ _ = z7 at hE
 go_enter Tryz.func5, Tryz.ntmps5
 go_wp2_with fail
 refine wp_region_quiet_below (by kernel_rfl) (by kernel_rfl) ?_
 repeat (any_goals (first | go_big_quiet_step (first | (go_at_call 15; with_reducible exact Calls.regrown_of (hM _ _).out) | (go_at_call 16; with_reducible exact Calls.regrown_of (hC _ _).out) | (go_at_call 17; with_reducible exact Calls.regrown_of (hE _ _).out)) | quiet_step (first | (go_at_call 15; with_reducible exact Calls.regrown_of (hM _ _).out) | (go_at_call 16; with_reducible exact Calls.regrown_of (hC _ _).out) | (go_at_call 17; with_reducible exact Calls.regrown_of (hE _ _).out))))
 refine wpQuiet_nil ?_
 intro w1 hw1
 replace hw1 := below_of_regrown hw1
 go_wp2
 have hbr1 := hide (hw1.mono (Nat.le_of_eq hsz.symm))
 have hzr1 : w.heap.size + 1 ≤ w1.heap.size := by have := hw1.size; omega
 clear hw1 hM hC hE hb0 hz hg
 generalize wrap64 (wrap64 (z2 + z6) + z7) = z0
 go_loopw [3, 4] (fun n i wr => ∃ k : Nat, k ≤ p.headers.length ∧ i = .int .i64 k ∧ (∃ z, n = .int .i64 z) ∧ Hid (Below (w.heap.size + 1) wb wr) ∧ w.heap.size + 1 ≤ wr.heap.size) (fun _ i _ => p.headers.length - (intOf i).toNat)
 case atStart => exact ⟨0, Nat.zero_le _, rfl, ⟨_, rfl⟩, hbr1, hzr1⟩
 case round =>
  obtain ⟨k, hk, rfl, ⟨z, rfl⟩, hbr, hzr⟩ := hrel
  have hg := gcell' hbr.out hzr
  have hc := bcell' hbr.out
  by_cases hlt : k < p.headers.length
  ·obtain ⟨b, o, ecs, hA, hb, hel, hcell, A', c', rfl, hn, hF⟩ := hP.out.headers.2 k _ (List.getElem?_eq_getElem hlt)
   subst hA
   have hltz : (k : Int) < (p.headers.length : Int) := by omega
   have hl' := hF.len
   have x0 : wb.cell? ⟨b, o + k * 2, none⟩ = some (.string p.headers[k].name) := by simpa using hcell 0 _ rfl
   have x1 : wb.cell? ⟨b, o + k * 2 + 1, none⟩ = some (.slice A' p.headers[k].fields.length c') := hcell 1 _ rfl
   have hX : ∀ d os, Hid (Calls Tryz.prog 15 #[.slice A' p.headers[k].fields.length c'] (Go.Sort.grow (redrawn wr d) os) _) := fun d os => hide (fields04_any _ A' c' _ (hF.grown2 sta_fd hbr.out (Nat.le_succ _) hzr d os))
   generalize lenF _ _ = zf at hX
   clear hcell hF
   go_wp2_with fail
   refine wp_region_quiet_below (by kernel_rfl) (by kernel_rfl) ?_
   repeat (any_goals (first | go_big_quiet_step (first | (go_at_call 15; with_reducible exact Calls.regrown_of (hX _ _).out) | fail) | quiet_step (first | (go_at_call 15; with_reducible exact Calls.regrown_of (hX _ _).out) | fail)))
   refine wpQuiet_nil ?_
   intro w2 hw2
   replace hw2 := below_of_regrown hw2
   go_wp2
   go_roundw
   case rel => exact ⟨k + 1, by omega, by go_num, ⟨_, rfl⟩, hide (hbr.out.trans (hw2.mono hzr)), by have := hw2.size; omega⟩
   case measure => simp [intOf]; omega
  ·clear hg
   go_wp2
   generalize k = k0
   go_loopw [3, 5] (fun n i wr => ∃ k : Nat, k ≤ p.states.length ∧ i = .int .i64 k ∧ (∃ z, n = .int .i64 z) ∧ Hid (Below (w.heap.size + 1) wb wr) ∧ w.heap.size + 1 ≤ wr.heap.size) (fun _ i _ => p.states.length - (intOf i).toNat)
   case atStart => exact ⟨0, Nat.zero_le _, rfl, ⟨_, rfl⟩, hbr, hzr⟩
   case round =>
    clear hbr hzr hc
    obtain ⟨k, hk, rfl, ⟨z, rfl⟩, hbr, hzr⟩ := hrel
    have hc := bcell' hbr.out
    by_cases hlt : k < p.states.length
    ·obtain ⟨b, o, ecs, hA, hb, hel, hcell, B1, d1, B2, d2, B3, d3, rfl, hn, hd, hT, hK, hCs⟩ := hP.out.states.2 k _ (List.getElem?_eq_getElem hlt)
     subst hA
     have hltz : (k : Int) < (p.states.length : Int) := by omega
     have m1 := hT.len
     have m2 := hK.len
     have m3 := hCs.len
     have x0 : wb.cell? ⟨b, o + k * 5, none⟩ = some (.string p.states[k].name) := by simpa using hcell 0 _ rfl
     have x1 : wb.cell? ⟨b, o + k * 5 + 1, none⟩ = some (.slice B1 p.states[k].takes.length d1) := hcell 1 _ rfl
     have x2 : wb.cell? ⟨b, o + k * 5 + 2, none⟩ = some (.string p.states[k].dest) := hcell 2 _ rfl
     have x3 : wb.cell? ⟨b, o + k * 5 + 3, none⟩ = some (.slice B2 p.states[k].keys.length d2) := hcell 3 _ rfl
     have x4 : wb.cell? ⟨b, o + k * 5 + 4, none⟩ = some (.slice B3 p.states[k].cases_.length d3) := hcell 4 _ rfl
     obtain ⟨ws, hws, hszs, hwS, hcs, -⟩ := box1 wr #[.string p.states[k].name, .slice B1 p.states[k].takes.length d1, .string p.states[k].dest, .slice B2 p.states[k].keys.length d2, .slice B3 p.states[k].cases_.length d3] 52
     have s0 : ws.cell? ⟨wr.heap.size, 0, none⟩ = some (.string p.states[k].name) := hcs 0
     have s1 : ws.cell? ⟨wr.heap.size, 1, none⟩ = some (.slice B1 p.states[k].takes.length d1) := hcs 1
     have s2 : ws.cell? ⟨wr.heap.size, 2, none⟩ = some (.string p.states[k].dest) := hcs 2
     have s3 : ws.cell? ⟨wr.heap.size, 3, none⟩ = some (.slice B2 p.states[k].keys.length d2) := hcs 3
     have s4 : ws.cell? ⟨wr.heap.size, 4, none⟩ = some (.slice B3 p.states[k].cases_.length d3) := hcs 4
     have hbs := hbr.out.trans (hwS.mono hzr)
     have hzs : w.heap.size + 1 ≤ ws.heap.size := by omega
     have hg := gcell' (show Below (wr.heap.size + 1) ws ws from Below.refl _ _) (by omega)
     have hX : ∀ d os, Hid (Calls Tryz.prog 17 #[.slice B1 p.states[k].takes.length d1] (Go.Sort.grow (redrawn ws d) os) _) := fun d os => hide (names04_any _ B1 d1 _ (hT.grown2 sta_str hbs (Nat.le_succ _) hzs d os))
     generalize lenN _ _ = zf at hX
     replace hK := hide (hK.below sta_ex (hbs.mono (Nat.le_succ _)))
     replace hCs := hide (hCs.below sta_ca (hbs.mono (Nat.le_succ _)))
     replace hbs := hide hbs
     replace hwS := hide hwS
     clear hcell hT hcs
     go_wp2_with fail
     refine wp_region_quiet_below (by kernel_rfl) (by kernel_rfl) ?_
     repeat (any_goals (first | go_big_quiet_step (first | (go_at_call 17; with_reducible exact Calls.regrown_of (hX _ _).out) | fail) | quiet_step (first | (go_at_call 17; with_reducible exact Calls.regrown_of (hX _ _).out) | fail)))
     refine wpQuiet_nil ?_
     intro w2 hw2
     replace hw2 := below_of_regrown hw2
     clear hX hg
     have hc2 := bcell' hw2
     have hb2 := hide hw2
     have hz2 : wr.heap.size + 1 ≤ w2.heap.size := by have := hw2.size; omega
     clear hw2
     go_wp2
     obtain ⟨w3, rfl⟩ : ∃ w3 : World, w3 = wr := ⟨_, rfl⟩
     go_loopw [3, 7] (fun n i wx => ∃ j : Nat, j ≤ p.states[k].keys.length ∧ i = .int .i64 j ∧ (∃ z, n = .int .i64 z) ∧ Hid (Below (w3.heap.size + 1) ws wx) ∧ w3.heap.size + 1 ≤ wx.heap.size) (fun _ i _ => p.states[k].keys.length - (intOf i).toNat)
     case atStart => exact ⟨0, Nat.zero_le _, rfl, ⟨_, rfl⟩, hide (hb2.out.mono (Nat.le_of_eq hszs.symm)), hz2⟩
     case round =>
      clear hb2 hz2 hc2
      obtain ⟨j, hj, rfl, ⟨z', rfl⟩, hbx, hzx⟩ := hrel
      have hcx := bcell' hbx.out
      by_cases hjt : j < p.states[k].keys.length
      ·obtain ⟨b', o', ecs', hA', hb', hel', hcell', hr'⟩ := hK.out.2 j _ (List.getElem?_eq_getElem hjt)
       subst hA'
       have hjz : (j : Int) < (p.states[k].keys.length : Int) := by omega
       have hbb : b' < w3.heap.size + 1 := by omega
       match ecs', hel' with
       | [a0, a1, a2, a3, a4, a5, a6, a7, a8], _ =>
        have q0 : ws.cell? ⟨b', o' + j * 9, none⟩ = some a0 := by simpa using hcell' 0 a0 rfl
        have q1 : ws.cell? ⟨b', o' + j * 9 + 1, none⟩ = some a1 := by simpa using hcell' 1 a1 rfl
        have q2 : ws.cell? ⟨b', o' + j * 9 + 2, none⟩ = some a2 := by simpa using hcell' 2 a2 rfl
        have q3 : ws.cell? ⟨b', o' + j * 9 + 3, none⟩ = some a3 := by simpa using hcell' 3 a3 rfl
        have q4 : ws.cell? ⟨b', o' + j * 9 + 4, none⟩ = some a4 := by simpa using hcell' 4 a4 rfl
        have q5 : ws.cell? ⟨b', o' + j * 9 + 5, none⟩ = some a5 := by simpa using hcell' 5 a5 rfl
        have q6 : ws.cell? ⟨b', o' + j * 9 + 6, none⟩ = some a6 := by simpa using hcell' 6 a6 rfl
        have q7 : ws.cell? ⟨b', o' + j * 9 + 7, none⟩ = some a7 := by simpa using hcell' 7 a7 rfl
        have q8 : ws.cell? ⟨b', o' + j * 9 + 8, none⟩ = some a8 := by simpa using hcell' 8 a8 rfl
        have hcall := weigh_any _ [a0, a1, a2, a3, a4, a5, a6, a7, a8] wr (sta_ex.more (sta_ex.keep hr' fun q hq => hbx.out.cell (Nat.lt_of_lt_of_le hq (by omega))) (by omega))
        clear hcell' hr'
        go_wp2_with (go_at_call 18; refine hcall.mono ?_; rintro e w' ⟨rfl, hw1⟩)
        go_roundw
        case rel => exact ⟨j + 1, by omega, by go_num, ⟨_, rfl⟩, hide (hbx.out.trans (hw1.mono hzx)), by have := hw1.size; omega⟩
        case measure => simp [intOf]; omega
      ·go_wp2
       go_loopw [3, 8] (fun n i wr => ∃ j : Nat, j ≤ p.states[k].cases_.length ∧ i = .int .i64 j ∧ (∃ z, n = .int .i64 z) ∧ Hid (Below (w3.heap.size + 1) ws wr) ∧ w3.heap.size + 1 ≤ wr.heap.size) (fun _ i _ => p.states[k].cases_.length - (intOf i).toNat)
       case atStart => exact ⟨0, Nat.zero_le _, rfl, ⟨_, rfl⟩, hbx, hzx⟩
       case round =>
        clear hbx hzx hcx
        obtain ⟨j2, hj2, rfl, ⟨zz, rfl⟩, hbx, hzx⟩ := hrel
        have hcx := bcell' hbx.out
        by_cases hjt2 : j2 < p.states[k].cases_.length
        ·obtain ⟨b', o', ecs', hA', hb', hel', hcell', C1, f1, rfl, hq1, hq2⟩ := hCs.out.2 j2 _ (List.getElem?_eq_getElem hjt2)
         subst hA'
         have hjz : (j2 : Int) < (p.states[k].cases_.length : Int) := by omega
         have hbb : b' < w3.heap.size + 1 := by omega
         have m4 := hq2.len
         have q0 : ws.cell? ⟨b', o' + j2 * 3, none⟩ = some (.bool p.states[k].cases_[j2].dflt) := by simpa using hcell' 0 _ rfl
         have q1 : ws.cell? ⟨b', o' + j2 * 3 + 1, none⟩ = some (.slice C1 p.states[k].cases_[j2].sets.length f1) := hcell' 1 _ rfl
         have q2 : ws.cell? ⟨b', o' + j2 * 3 + 2, none⟩ = some (.string p.states[k].cases_[j2].dest) := hcell' 2 _ rfl
         clear hcell' hq2
         go_wp2_with fail
         go_quiet (fail)
         go_wp2
         go_roundw
         case rel => exact ⟨j2 + 1, by omega, by go_num, ⟨_, rfl⟩, hide (below_drewN hbx.out _), by simpa using hzx⟩
         case measure => simp [intOf]; omega
        ·go_wp2
         go_roundw
         case rel => exact ⟨k + 1, by omega, by go_num, ⟨_, rfl⟩, hide (hbs.out.trans (hbx.out.mono (by omega))), by omega⟩
         case measure => simp [intOf]; omega
    ·go_wp2
     generalize k = k1 at *
     go_loopw [3, 9] (fun n i wr => ∃ k : Nat, k ≤ p.actions.length ∧ i = .int .i64 k ∧ (∃ z, n = .int .i64 z) ∧ Hid (Below (w.heap.size + 1) wb wr) ∧ w.heap.size + 1 ≤ wr.heap.size) (fun _ i _ => p.actions.length - (intOf i).toNat)
     case atStart => exact ⟨0, Nat.zero_le _, rfl, ⟨_, rfl⟩, hbr, hzr⟩
     case round =>
      clear hbr hzr hc
      obtain ⟨k, hk, rfl, ⟨z, rfl⟩, hbr, hzr⟩ := hrel
      have hc := bcell' hbr.out
      have hg := gcell' hbr.out hzr
      by_cases hlt : k < p.actions.length
      ·obtain ⟨b, o, ecs, hA, hb, hel, hcell, B1, d1, B2, d2, rfl, hn, hT, hK⟩ := hP.out.actions.2 k _ (List.getElem?_eq_getElem hlt)
       subst hA
       have hltz : (k : Int) < (p.actions.length : Int) := by omega
       have m1 := hT.len
       have m2 := hK.len
       have x0 : wb.cell? ⟨b, o + k * 3, none⟩ = some (.string p.actions[k].name) := by simpa using hcell 0 _ rfl
       have x1 : wb.cell? ⟨b, o + k * 3 + 1, none⟩ = some (.slice B1 p.actions[k].params.length d1) := hcell 1 _ rfl
       have x2 : wb.cell? ⟨b, o + k * 3 + 2, none⟩ = some (.slice B2 p.actions[k].body.length d2) := hcell 2 _ rfl
       have hX : ∀ d os, Hid (Calls Tryz.prog 15 #[.slice B1 p.actions[k].params.length d1] (Go.Sort.grow (redrawn wr d) os) _) := fun d os => hide (fields04_any _ B1 d1 _ (hT.grown2 sta_fd hbr.out (Nat.le_succ _) hzr d os))
       have hY : ∀ d os, Hid (Calls Tryz.prog 16 #[.slice B2 p.actions[k].body.length d2] (Go.Sort.grow (redrawn wr d) os) _) := fun d os => hide (weighs_any _ B2 d2 _ (hK.grown2 sta_st hbr.out (Nat.le_succ _) hzr d os))
       generalize lenF _ _ = zf at hX
       generalize weighL _ _ = zs at hY
       clear hcell hT hK
       go_wp2_with fail
       refine wp_region_quiet_below (by kernel_rfl) (by kernel_rfl) ?_
       repeat (any_goals (first | go_big_quiet_step (first | (go_at_call 15; with_reducible exact Calls.regrown_of (hX _ _).out) | (go_at_call 16; with_reducible exact Calls.regrown_of (hY _ _).out)) | quiet_step (first | (go_at_call 15; with_reducible exact Calls.regrown_of (hX _ _).out) | (go_at_call 16; with_reducible exact Calls.regrown_of (hY _ _).out))))
       refine wpQuiet_nil ?_
       intro w2 hw2
       replace hw2 := below_of_regrown hw2
       go_wp2
       go_roundw
       case rel => exact ⟨k + 1, by omega, by go_num, ⟨_, rfl⟩, hide (hbr.out.trans (hw2.mono hzr)), by have := hw2.size; omega⟩
       case measure => simp [intOf]; omega
      ·clear hg
       go_wp2
       generalize k = k2 at *
       go_loopw [3, 10] (fun n i wr => ∃ k : Nat, k ≤ p.tables.length ∧ i = .int .i64 k ∧ (∃ z, n = .int .i64 z) ∧ Hid (Below (w.heap.size + 1) wb wr) ∧ w.heap.size + 1 ≤ wr.heap.size) (fun _ i _ => p.tables.length - (intOf i).toNat)
       case atStart => exact ⟨0, Nat.zero_le _, rfl, ⟨_, rfl⟩, hbr, hzr⟩
       case round =>
        clear hbr hzr hc
        obtain ⟨k, hk, rfl, ⟨z, rfl⟩, hbr, hzr⟩ := hrel
        have hc := bcell' hbr.out
        by_cases hlt : k < p.tables.length
        ·obtain ⟨b, o, ecs, hA, hb, hel, hcell, B1, d1, B2, d2, B3, d3, rfl, hn, hd, hK, hT, hL⟩ := hP.out.tables.2 k _ (List.getElem?_eq_getElem hlt)
         subst hA
         have hltz : (k : Int) < (p.tables.length : Int) := by omega
         have m1 := hT.len
         have m2 := hK.len
         have m3 := hL.len
         have x0 : wb.cell? ⟨b, o + k * 5, none⟩ = some (.string p.tables[k].name) := by simpa using hcell 0 _ rfl
         have x1 : wb.cell? ⟨b, o + k * 5 + 1, none⟩ = some (.slice B1 p.tables[k].keys.length d1) := hcell 1 _ rfl
         have x2 : wb.cell? ⟨b, o + k * 5 + 2, none⟩ = some (.slice B2 p.tables[k].actions.length d2) := hcell 2 _ rfl
         have x3 : wb.cell? ⟨b, o + k * 5 + 3, none⟩ = some (.string p.tables[k].dname) := hcell 3 _ rfl
         have x4 : wb.cell? ⟨b, o + k * 5 + 4, none⟩ = some (.slice B3 p.tables[k].dargs.length d3) := hcell 4 _ rfl
         obtain ⟨ws, hws, hszs, hwS, hcs, -⟩ := box1 wr #[.string p.tables[k].name, .slice B1 p.tables[k].keys.length d1, .slice B2 p.tables[k].actions.length d2, .string p.tables[k].dname, .slice B3 p.tables[k].dargs.length d3] 48
         have s0 : ws.cell? ⟨wr.heap.size, 0, none⟩ = some (.string p.tables[k].name) := hcs 0
         have s1 : ws.cell? ⟨wr.heap.size, 1, none⟩ = some (.slice B1 p.tables[k].keys.length d1) := hcs 1
         have s2 : ws.cell? ⟨wr.heap.size, 2, none⟩ = some (.slice B2 p.tables[k].actions.length d2) := hcs 2
         have s3 : ws.cell? ⟨wr.heap.size, 3, none⟩ = some (.string p.tables[k].dname) := hcs 3
         have s4 : ws.cell? ⟨wr.heap.size, 4, none⟩ = some (.slice B3 p.tables[k].dargs.length d3) := hcs 4
         have hbs := hbr.out.trans (hwS.mono hzr)
         have hzs : w.heap.size + 1 ≤ ws.heap.size := by omega
         have hg := gcell' (show Below (wr.heap.size + 1) ws ws from Below.refl _ _) (by omega)
         have hX : ∀ d os, Hid (Calls Tryz.prog 17 #[.slice B2 p.tables[k].actions.length d2] (Go.Sort.grow (redrawn ws d) os) _) := fun d os => hide (names04_any _ B2 d2 _ (hT.grown2 sta_str hbs (Nat.le_succ _) hzs d os))
         generalize lenN _ _ = zf at hX
         replace hK := hide (hK.below sta_ky (hbs.mono (Nat.le_succ _)))
         replace hbs := hide hbs
         replace hwS := hide hwS
         clear hcell hT hcs hL
         go_wp2_with fail
         refine wp_region_quiet_below (by kernel_rfl) (by kernel_rfl) ?_
         repeat (any_goals (first | go_big_quiet_step (first | (go_at_call 17; with_reducible exact Calls.regrown_of (hX _ _).out) | fail) | quiet_step (first | (go_at_call 17; with_reducible exact Calls.regrown_of (hX _ _).out) | fail)))
         refine wpQuiet_nil ?_
         intro w2 hw2
         replace hw2 := below_of_regrown hw2
         clear hX hg
         have hc2 := bcell' hw2
         have hb2 := hide hw2
         have hz2 : wr.heap.size + 1 ≤ w2.heap.size := by have := hw2.size; omega
         clear hw2
         go_wp2
         obtain ⟨w3, rfl⟩ : ∃ w3 : World, w3 = wr := ⟨_, rfl⟩
         go_loopw [3, 12] (fun n i wr => ∃ j : Nat, j ≤ p.tables[k].keys.length ∧ i = .int .i64 j ∧ (∃ z, n = .int .i64 z) ∧ Hid (Below (w3.heap.size + 1) ws wr) ∧ w3.heap.size + 1 ≤ wr.heap.size) (fun _ i _ => p.tables[k].keys.length - (intOf i).toNat)
         case atStart => exact ⟨0, Nat.zero_le _, rfl, ⟨_, rfl⟩, hide (hb2.out.mono (Nat.le_of_eq hszs.symm)), hz2⟩
         case round =>
          clear hb2 hz2 hc2
          obtain ⟨j, hj, rfl, ⟨z', rfl⟩, hbx, hzx⟩ := hrel
          have hcx := bcell' hbx.out
          by_cases hjt : j < p.tables[k].keys.length
          ·obtain ⟨b', o', ecs', hA', hb', hel', hcell', es, rfl, hk8, hr'⟩ := hK.out.2 j _ (List.getElem?_eq_getElem hjt)
           subst hA'
           have hjz : (j : Int) < (p.tables[k].keys.length : Int) := by omega
           have hbb : b' < w3.heap.size + 1 := by omega
           have hes : es.length = 9 := by simpa using hel'
           match es, hes with
           | [a0, a1, a2, a3, a4, a5, a6, a7, a8], _ =>
            have q0 : ws.cell? ⟨b', o' + j * 10, none⟩ = some a0 := by simpa using hcell' 0 a0 rfl
            have q1 : ws.cell? ⟨b', o' + j * 10 + 1, none⟩ = some a1 := by simpa using hcell' 1 a1 rfl
            have q2 : ws.cell? ⟨b', o' + j * 10 + 2, none⟩ = some a2 := by simpa using hcell' 2 a2 rfl
            have q3 : ws.cell? ⟨b', o' + j * 10 + 3, none⟩ = some a3 := by simpa using hcell' 3 a3 rfl
            have q4 : ws.cell? ⟨b', o' + j * 10 + 4, none⟩ = some a4 := by simpa using hcell' 4 a4 rfl
            have q5 : ws.cell? ⟨b', o' + j * 10 + 5, none⟩ = some a5 := by simpa using hcell' 5 a5 rfl
            have q6 : ws.cell? ⟨b', o' + j * 10 + 6, none⟩ = some a6 := by simpa using hcell' 6 a6 rfl
            have q7 : ws.cell? ⟨b', o' + j * 10 + 7, none⟩ = some a7 := by simpa using hcell' 7 a7 rfl
            have q8 : ws.cell? ⟨b', o' + j * 10 + 8, none⟩ = some a8 := by simpa using hcell' 8 a8 rfl
            have hcall := weigh_any _ [a0, a1, a2, a3, a4, a5, a6, a7, a8] wr (sta_ex.more (sta_ex.keep hr' fun q hq => hbx.out.cell (Nat.lt_of_lt_of_le hq (by omega))) (by omega))
            clear hcell' hr'
            go_wp2_with (go_at_call 18; refine hcall.mono ?_; rintro e w' ⟨rfl, hw1⟩)
            go_roundw
            case rel => exact ⟨j + 1, by omega, by go_num, ⟨_, rfl⟩, hide (hbx.out.trans (hw1.mono hzx)), by have := hw1.size; omega⟩
            case measure => simp [intOf]; omega
          ·go_wp2
           go_roundw
           case rel => exact ⟨k + 1, by omega, by go_num, ⟨_, rfl⟩, hide (hbs.out.trans (hbx.out.mono (by omega))), by omega⟩
           case measure => simp [intOf]; omega
        ·go_wp2
         go_ret
         exact ⟨⟨_, rfl⟩, hw.out.trans (hbr.out.mono (Nat.le_succ _))⟩
end Go.Proofs.YtcgmkjpgaigmfaaGreat

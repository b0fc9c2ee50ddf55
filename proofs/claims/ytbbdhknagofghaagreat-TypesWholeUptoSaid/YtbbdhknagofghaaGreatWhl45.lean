import Derived.Test.YtbbdhknagofghaaGreatWhl44
import Derived.Test.YtbbdhknagofghaaGreatWhl34
import Derived.Test.YtbbdhknagofghaaGreatWhl33
import Derived.Test.YtbbdhknagofghaaGreatWhl02
set_option linter.all false
/-! Layer 8: Check whole, over the program's own Items and Check. -/
namespace Go.Proofs.YtbbdhknagofghaaGreat
open Go.RowKit
set_option maxHeartbeats 1000000 in
theorem collectI_any (gf : Nat) (lb : Array Value) (eg : ∀ args w, (callFunc gf args).run Tryz.prog w = .ok (.enter gf args) w) (xs : List It) (hl : xs.length ≤ bigI) (B : Nat) (w : World) (hB : B ≤ w.heap.size) (hseq : GivesS Tryz.prog gf lb (itR' B) exI xs (fun _ => true) (fun W => Below w.heap.size w W) w) :
  Calls Tryz.prog 33 #[.func (.func gf) #[] lb] w fun e w' => ∃ v base, e = .returned v ∧ ItS w' base B v xs ∧ Below w.heap.size w w' := by
 have hc := hide (appendSeqI_any gf lb eg xs hl B w hB hseq)
 go_enter Tryz.func33, Tryz.ntmps33
 go_wp2_with (go_at_call 94; refine hc.out.mono ?_; rintro e w' ⟨v, base, rfl, hv, hb⟩)
 go_ret
 exact ⟨v, base, rfl, hv, hb⟩
set_option maxRecDepth 100000 in
set_option maxHeartbeats 4000000 in
theorem itemsT_any (A1 A2 A3 A4 A5 A6 A7 : Option Addr) (p : Pg) (c1 c2 c3 c4 c5 c6 c7 : Nat) (B : Nat) (w : World) (hB : B ≤ w.heap.size) (hP : PgS w B A1 A2 A3 A4 A5 A6 A7 p) (hbig : (itemsP p).length ≤ bigI) :
  Calls Tryz.prog 18 #[.agg #[.slice A1 p.headers.length c1, .slice A2 p.metas.length c2, .slice A3 p.states.length c3, .slice A4 p.actions.length c4, .slice A5 p.tables.length c5, .slice A6 p.control.length c6, .slice A7 p.emit.length c7]] w fun e w' => (∃ A cap, e = .returned (.slice A (itemsP p).length cap) ∧ Sl 17 rIt w' w'.heap.size A (itemsP p)) ∧ Below w.heap.size w w' := by
 obtain ⟨wu, hwu, hsu, hbu, hcu, -⟩ := box1 w #[.slice A1 p.headers.length c1, .slice A2 p.metas.length c2, .slice A3 p.states.length c3, .slice A4 p.actions.length c4, .slice A5 p.tables.length c5, .slice A6 p.control.length c6, .slice A7 p.emit.length c7] 30
 obtain ⟨u0, u1, u2, u3, u4, u5, u6⟩ := row7 hcu
 have hl1 : w.heap.size < wu.heap.size := by omega
 obtain ⟨wx, hwx⟩ : ∃ wx, wu.alloc (.cells #[.slice A1 p.headers.length c1, .slice A2 p.metas.length c2, .slice A3 p.states.length c3, .slice A4 p.actions.length c4, .slice A5 p.tables.length c5, .slice A6 p.control.length c6, .slice A7 p.emit.length c7] 30) = wx := ⟨_, rfl⟩
 have hbx : Below wu.heap.size wu wx := by rw [← hwx]; exact (Below.refl _ _).alloc (Nat.le_refl _) _
 have hsx : wx.heap.size = wu.heap.size + 1 := by rw [← hwx]; simp
 have hox : wx.heap[wu.heap.size]? = some (.cells #[.slice A1 p.headers.length c1, .slice A2 p.metas.length c2, .slice A3 p.states.length c3, .slice A4 p.actions.length c4, .slice A5 p.tables.length c5, .slice A6 p.control.length c6, .slice A7 p.emit.length c7] 30) := by rw [← hwx]; exact World.alloc_heap_new wu _
 have hwB := hbu.trans (hbx.mono (by omega))
 have hBx : B ≤ wx.heap.size := by omega
 have hPx := hP.below (hwB.mono hB)
 have hA := hide (all_any A1 A2 A3 A4 A5 A6 A7 p c1 c2 c3 c4 c5 c6 c7 wu)
 have hC := hide (collectI_any 70 #[.pointer (some ⟨wu.heap.size, 0, none⟩)] enters_all1 (itemsP p) hbig B wx hBx (all_gives (w0 := wx) (B := B) (fun _ => true) A1 A2 A3 A4 A5 A6 A7 p c1 c2 c3 c4 c5 c6 c7 hPx hBx wu.heap.size wx hBx hox))
 rw [hwx] at hA
 have hw := hide hwB
 clear hcu hP hPx hwB hbx hbu hox
 replace hsu := hide hsu
 replace hwx := hide hwx
 replace hsx := hide hsx
 have hBx' := hide hBx
 go_enter Tryz.func18, Tryz.ntmps18
 go_wp2_with (first | (go_at_call 31; with_reducible refine hA.out.mono ?_; rintro e w3 ⟨rfl, rfl⟩) | (go_at_call 33; with_reducible refine hC.out.mono ?_; rintro e w4 ⟨v, base, rfl, hv, hb4⟩))
 go_ret
 obtain ⟨A, cap, rfl, hS⟩ := hv.sl (Nat.le_trans hBx'.out hb4.size) hbig
 exact ⟨⟨A, cap, rfl, hS⟩, hw.out.trans (hb4.mono (by have := hw.out.size; omega))⟩
/-- What the program's Check tells. -/
def typR (p : Pg) : Int × Int := if (checkR p).2 = 0 then firstT p (itemsP p) 0 (checkR p).1 else checkR p
theorem tCheck_any (A1 A2 A3 A4 A5 A6 A7 : Option Addr) (p : Pg) (c1 c2 c3 c4 c5 c6 c7 : Nat) (B : Nat) (w : World) (hB : B ≤ w.heap.size) (hP : PgS w B A1 A2 A3 A4 A5 A6 A7 p) (hcap : KCap w A5 p) (hbig : mayP p = true → (itemsP p).length ≤ bigI)
  (hMay : ∀ W, B ≤ W.heap.size → Below w.heap.size w W → Calls Tryz.prog 30 #[.agg #[.slice A1 p.headers.length c1, .slice A2 p.metas.length c2, .slice A3 p.states.length c3, .slice A4 p.actions.length c4, .slice A5 p.tables.length c5, .slice A6 p.control.length c6, .slice A7 p.emit.length c7]] W fun e W' => e = .returned (.bool (mayP p)) ∧ Below W.heap.size W W') :
  Calls Tryz.prog 7 #[.agg #[.slice A1 p.headers.length c1, .slice A2 p.metas.length c2, .slice A3 p.states.length c3, .slice A4 p.actions.length c4, .slice A5 p.tables.length c5, .slice A6 p.control.length c6, .slice A7 p.emit.length c7]] w fun e w' => e = .returned (.tuple #[.int .i64 (typR p).1, .int .i64 (typR p).2]) ∧ Below w.heap.size w w' := by
 have hC : ∀ W, Below w.heap.size w W → Calls Tryz.prog 17 #[.agg #[.slice A1 p.headers.length c1, .slice A2 p.metas.length c2, .slice A3 p.states.length c3, .slice A4 p.actions.length c4, .slice A5 p.tables.length c5, .slice A6 p.control.length c6, .slice A7 p.emit.length c7]] W fun e W' => e = .returned (.tuple #[.int .i64 (checkR p).1, .int .i64 (checkR p).2]) ∧ Below W.heap.size W W' := fun W hW =>
  check07_any A1 A2 A3 A4 A5 A6 A7 p c1 c2 c3 c4 c5 c6 c7 B W (Nat.le_trans hB hW.size) (hP.below (hW.mono hB)) fun W' h1 h2 => hMay W' h1 (hW.trans (h2.mono hW.size))
 unfold typR
 by_cases h : (checkR p).2 = 0
 ·rw [if_pos h]
  have hm : mayP p = true := by
   cases hm : mayP p with
   | true => rfl
   | false => unfold checkR at h; rw [hm] at h; cases h
  have hok : ∀ x ∈ itemsP p, checkI p x = 0 := by
   unfold checkR at h
   rw [if_pos hm] at h
   exact (firstBad_ok _ _ h).2
  refine tcheck_any A1 A2 A3 A4 A5 A6 A7 p c1 c2 c3 c4 c5 c6 c7 B hm (checkR p).1 (itemsP p) w hB hP hcap (fun W hW => by rw [← h]; exact hC W hW) (fun W hW => itemsT_any A1 A2 A3 A4 A5 A6 A7 p c1 c2 c3 c4 c5 c6 c7 B W (Nat.le_trans hB hW.size) (hP.below (hW.mono hB)) (hbig hm)) (items_ok hm hok)
 ·rw [if_neg h]
  exact tcheck_bad A1 A2 A3 A4 A5 A6 A7 p c1 c2 c3 c4 c5 c6 c7 (checkR p).1 (checkR p).2 h w hC
end Go.Proofs.YtbbdhknagofghaaGreat
/-! Layer 4's Great: it answers, and lays nothing that lay. -/
namespace Go.Proofs.YtbbdhknagofghaaGreat
open Go.RowKit
mutual
def weighE : Ex → Int
 | .mk _ _ head name _ _ args => weighA (wrap64 (wrap64 (1 + head.size) + name.size)) args
def weighA (n : Int) : List Ex → Int
 | [] => n
 | x :: l => weighA (wrap64 (n + weighE x)) l
end
theorem weighA_snoc (l : List Ex) (x : Ex) : ∀ n : Int, weighA n (l ++ [x]) = wrap64 (weighA n l + weighE x) := by
 induction l with
 | nil => intro n; simp only [List.nil_append, weighA]
 | cons y l ih => intro n; simp only [List.cons_append, weighA, ih]
theorem weighA_take {l : List Ex} {k : Nat} (hk : k < l.length) (n : Int) : weighA n (l.take (k + 1)) = wrap64 (weighA n (l.take k) + weighE l[k]) := by
 rw [List.take_succ_eq_append_getElem hk, weighA_snoc]
set_option maxHeartbeats 1000000 in
theorem weigh_any (e : Ex) : ∀ (cs : List Value) (w : World), rEx w w.heap.size cs e → Calls Tryz.prog 14 #[.agg cs.toArray] w fun r w' => r = .returned (.int .i64 (weighE e)) ∧ Below w.heap.size w w' := by
 induction e using Ex.ind with
 | h op lit head name hi lo args ih =>
  intro cs w h
  obtain ⟨A, cap, rfl, -, -, -, -, -, -, hs⟩ := RE.inv h
  have hl := hs.len
  replace ih := hide ih
  clear h
  show Calls _ _ #[.agg #[.int .u8 op, .int .i64 lit.1, .int .u64 lit.2.1, .int .u64 lit.2.2, .string head, .string name, .int .i64 hi, .int .i64 lo, .slice A args.length cap]] _ _
  obtain ⟨wb, hwb, hsz, hw, hcb, -⟩ := box1 w #[.int .u8 op, .int .i64 lit.1, .int .u64 lit.2.1, .int .u64 lit.2.2, .string head, .string name, .int .i64 hi, .int .i64 lo, .slice A args.length cap] 45
  have y4 : wb.cell? ⟨w.heap.size, 4, none⟩ = some (.string head) := hcb 4
  have y5 : wb.cell? ⟨w.heap.size, 5, none⟩ = some (.string name) := hcb 5
  have y8 : wb.cell? ⟨w.heap.size, 8, none⟩ = some (.slice A args.length cap) := hcb 8
  have hS := hide (hs.below sta_ex hw)
  have hv := hide (show weighE (.mk op lit head name hi lo args) = weighA (wrap64 (wrap64 (1 + head.size) + name.size)) args from by simp only [weighE])
  replace hw := hide hw
  clear hcb hs
  go_enter Tryz.func14, Tryz.ntmps14
  go_wp2
  go_loopw [3, 4] (fun n i wr => ∃ k : Nat, k ≤ args.length ∧ i = .int .i64 k ∧ n = .int .i64 (weighA (wrap64 (wrap64 (1 + head.size) + name.size)) (args.take k)) ∧ Hid (Below (w.heap.size + 1) wb wr) ∧ w.heap.size + 1 ≤ wr.heap.size) (fun _ i _ => args.length - (intOf i).toNat)
  case atStart => exact ⟨0, Nat.zero_le _, rfl, by simp [weighA], hide (Below.refl _ _), by omega⟩
  case round =>
   obtain ⟨k, hk, rfl, rfl, hbr, hzr⟩ := hrel
   have hg := gcell' hbr.out hzr
   have hc := bcell' hbr.out
   by_cases hlt : k < args.length
   ·obtain ⟨b, o, ecs, hA, hb, hel, hcell, hr⟩ := hS.out.2 k _ (List.getElem?_eq_getElem hlt)
    subst hA
    have hltz : (k : Int) < (args.length : Int) := by omega
    match ecs, hel with
    | [a0, a1, a2, a3, a4, a5, a6, a7, a8], _ =>
     have x0 : wb.cell? ⟨b, o + k * 9, none⟩ = some a0 := by simpa using hcell 0 a0 rfl
     have x1 : wb.cell? ⟨b, o + k * 9 + 1, none⟩ = some a1 := by simpa using hcell 1 a1 rfl
     have x2 : wb.cell? ⟨b, o + k * 9 + 2, none⟩ = some a2 := by simpa using hcell 2 a2 rfl
     have x3 : wb.cell? ⟨b, o + k * 9 + 3, none⟩ = some a3 := by simpa using hcell 3 a3 rfl
     have x4 : wb.cell? ⟨b, o + k * 9 + 4, none⟩ = some a4 := by simpa using hcell 4 a4 rfl
     have x5 : wb.cell? ⟨b, o + k * 9 + 5, none⟩ = some a5 := by simpa using hcell 5 a5 rfl
     have x6 : wb.cell? ⟨b, o + k * 9 + 6, none⟩ = some a6 := by simpa using hcell 6 a6 rfl
     have x7 : wb.cell? ⟨b, o + k * 9 + 7, none⟩ = some a7 := by simpa using hcell 7 a7 rfl
     have x8 : wb.cell? ⟨b, o + k * 9 + 8, none⟩ = some a8 := by simpa using hcell 8 a8 rfl
     have hcall := ih.out _ (List.getElem_mem hlt) [a0, a1, a2, a3, a4, a5, a6, a7, a8] wr (sta_ex.more (sta_ex.keep hr fun q hq => hbr.out.cell (Nat.lt_succ_of_lt hq)) (by omega))
     have ht := hide (weighA_take hlt (wrap64 (wrap64 (1 + head.size) + name.size)))
     clear hcell hr
     go_wp2_with (go_at_call 14; refine hcall.mono ?_; rintro e w' ⟨rfl, hw1⟩)
     go_roundw
     case rel => exact ⟨k + 1, by omega, by go_num, by rw [ht.out], hide (hbr.out.trans (hw1.mono hzr)), by have := hw1.size; omega⟩
     case measure => simp [intOf]; omega
   ·go_wp2
    go_ret
    rw [hv.out, List.take_of_length_le (by omega)]
    exact ⟨rfl, hw.out.trans (hbr.out.mono (Nat.le_succ _))⟩
mutual
def weighS (n : Int) : St → Int
 | .mk _ head name e thn els => wrap64 (wrap64 (wrap64 (wrap64 (wrap64 (wrap64 (n + 1) + head.size) + name.size) + weighE e) + weighL 0 thn) + weighL 0 els)
def weighL (n : Int) : List St → Int
 | [] => n
 | s :: l => weighL (weighS n s) l
end
theorem weighL_snoc (l : List St) (x : St) : ∀ n : Int, weighL n (l ++ [x]) = weighS (weighL n l) x := by
 induction l with
 | nil => intro n; simp only [List.nil_append, weighL]
 | cons y l ih => intro n; simp only [List.cons_append, weighL, ih]
theorem weighL_take {l : List St} {k : Nat} (hk : k < l.length) (n : Int) : weighL n (l.take (k + 1)) = weighS (weighL n (l.take k)) l[k] := by
 rw [List.take_succ_eq_append_getElem hk, weighL_snoc]
def WeighsIs (l : List St) : Prop := ∀ (A : Option Addr) (cap : Nat) (w : World), Sl 14 rSt w w.heap.size A l → Calls Tryz.prog 12 #[.slice A l.length cap] w fun r w' => r = .returned (.int .i64 (weighL 0 l)) ∧ Below w.heap.size w w'
def WeighsIn : St → Prop
 | .mk _ _ _ _ thn els => WeighsIs thn ∧ WeighsIs els
theorem Sl.grown {α : Type} {R : CR α} {k : Nat} {w wr : World} {A : Option Addr} {xs : List α} (sR : Sta R) (h : Sl k R w w.heap.size A xs) (hb : Below w.heap.size w wr) (d : Nat) (os : Array Obj) :
  Sl k R (Go.Sort.grow (redrawn wr d) os) (Go.Sort.grow (redrawn wr d) os).heap.size A xs := by
 have h1 := hb.trans ((below_regrown wr d os).mono hb.size)
 exact (h.below sR h1).more sR h1.size
set_option maxHeartbeats 1000000 in
theorem weighs_of (l : List St) (ih : ∀ x ∈ l, WeighsIn x) : WeighsIs l := by
 intro A cap w hS
 have hl := hS.len
 replace ih := hide ih
 replace hS := hide hS
 go_enter Tryz.func12, Tryz.ntmps12
 go_wp2
 go_loopw [3, 4] (fun n i wr => ∃ k : Nat, k ≤ l.length ∧ i = .int .i64 k ∧ n = .int .i64 (weighL 0 (l.take k)) ∧ Hid (Below w.heap.size w wr)) (fun _ i _ => l.length - (intOf i).toNat)
 case atStart => exact ⟨0, Nat.zero_le _, rfl, by simp [weighL], hide (Below.refl _ _)⟩
 case round =>
  obtain ⟨k, hk, rfl, rfl, hbr⟩ := hrel
  have hg := gcell' hbr.out hbr.out.size
  have hc := bcell' hbr.out
  by_cases hlt : k < l.length
  ·obtain ⟨b, o, ecs, hA, hb, hel, hcell, hr⟩ := hS.out.2 k _ (List.getElem?_eq_getElem hlt)
   subst hA
   have hltz : (k : Int) < (l.length : Int) := by omega
   have ht := weighL_take hlt 0
   have hin := ih.out _ (List.getElem_mem hlt)
   generalize hx : l[k] = x at hr ht hin
   obtain ⟨kind, head, name, e, thn, els⟩ := x
   obtain ⟨es, A1, c1, A2, c2, rfl, h0, h1, h2, he, hT, hE⟩ := RS.inv hr
   have l1 := hT.len
   have l2 := hE.len
   simp only [weighS] at ht
   have hes : es.length = 9 := by simpa [stC] using hel
   match es, hes with
   | [e0, e1, e2, e3, e4, e5, e6, e7, e8], _ =>
    have x0 : w.cell? ⟨b, o + k * 14, none⟩ = some (.int .u8 kind) := by simpa using hcell 0 _ rfl
    have x1 : w.cell? ⟨b, o + k * 14 + 1, none⟩ = some (.string head) := hcell 1 _ rfl
    have x2 : w.cell? ⟨b, o + k * 14 + 2, none⟩ = some (.string name) := hcell 2 _ rfl
    have x3 : w.cell? ⟨b, o + k * 14 + 3, none⟩ = some e0 := hcell 3 _ rfl
    have x4 : w.cell? ⟨b, o + k * 14 + 4, none⟩ = some e1 := hcell 4 _ rfl
    have x5 : w.cell? ⟨b, o + k * 14 + 5, none⟩ = some e2 := hcell 5 _ rfl
    have x6 : w.cell? ⟨b, o + k * 14 + 6, none⟩ = some e3 := hcell 6 _ rfl
    have x7 : w.cell? ⟨b, o + k * 14 + 7, none⟩ = some e4 := hcell 7 _ rfl
    have x8 : w.cell? ⟨b, o + k * 14 + 8, none⟩ = some e5 := hcell 8 _ rfl
    have x9 : w.cell? ⟨b, o + k * 14 + 9, none⟩ = some e6 := hcell 9 _ rfl
    have x10 : w.cell? ⟨b, o + k * 14 + 10, none⟩ = some e7 := hcell 10 _ rfl
    have x11 : w.cell? ⟨b, o + k * 14 + 11, none⟩ = some e8 := hcell 11 _ rfl
    have x12 : w.cell? ⟨b, o + k * 14 + 12, none⟩ = some (.slice A1 thn.length c1) := hcell 12 _ rfl
    have x13 : w.cell? ⟨b, o + k * 14 + 13, none⟩ = some (.slice A2 els.length c2) := hcell 13 _ rfl
    have hEx : ∀ d os, Calls Tryz.prog 14 #[.agg #[e0, e1, e2, e3, e4, e5, e6, e7, e8]] (Go.Sort.grow (redrawn wr d) os) fun r w' => r = .returned (.int .i64 (weighE e)) ∧ Below (Go.Sort.grow (redrawn wr d) os).heap.size (Go.Sort.grow (redrawn wr d) os) w' := fun d os =>
     weigh_any e [e0, e1, e2, e3, e4, e5, e6, e7, e8] _ (sta_ex.more (sta_ex.keep he fun q hq => (below_grow hbr.out hbr.out.size d os).cell hq) (by have := gsize wr d os; have := hbr.out.size; omega))
    have hTx : ∀ d os, Calls Tryz.prog 12 #[.slice A1 thn.length c1] (Go.Sort.grow (redrawn wr d) os) fun r w' => r = .returned (.int .i64 (weighL 0 thn)) ∧ Below (Go.Sort.grow (redrawn wr d) os).heap.size (Go.Sort.grow (redrawn wr d) os) w' := fun d os =>
     hin.1 _ _ _ (hT.grown sta_st hbr.out d os)
    have hLx : ∀ d os, Calls Tryz.prog 12 #[.slice A2 els.length c2] (Go.Sort.grow (redrawn wr d) os) fun r w' => r = .returned (.int .i64 (weighL 0 els)) ∧ Below (Go.Sort.grow (redrawn wr d) os).heap.size (Go.Sort.grow (redrawn wr d) os) w' := fun d os =>
     hin.2 _ _ _ (hE.grown sta_st hbr.out d os)
    generalize weighE e = ze at ht hEx
    generalize weighL 0 thn = zt at ht hTx
    generalize weighL 0 els = zs at ht hLx
    generalize thn.length = n1 at *
    generalize els.length = n2 at *
    replace hEx := fun d os => hide (hEx d os)
    replace hTx := fun d os => hide (hTx d os)
    replace hLx := fun d os => hide (hLx d os)
    replace ht := hide ht
    clear hin hcell hr hT hE he hel hx h0 h1 h2
    go_wp2_with fail
    refine wp_region_quiet_below (by kernel_rfl) (by kernel_rfl) ?_
    repeat (any_goals (first | go_big_quiet_step (first | (go_at_call 14; exact Calls.regrown_of (hEx _ _).out) | (go_at_call 12; first | with_reducible exact Calls.regrown_of (hTx _ _).out | with_reducible exact Calls.regrown_of (hLx _ _).out)) | quiet_step (first | (go_at_call 14; exact Calls.regrown_of (hEx _ _).out) | (go_at_call 12; first | with_reducible exact Calls.regrown_of (hTx _ _).out | with_reducible exact Calls.regrown_of (hLx _ _).out))))
    refine wpQuiet_nil ?_
    intro w1 hw1
    replace hw1 := below_of_regrown hw1
    go_wp2
    go_roundw
    case rel => exact ⟨k + 1, by omega, by go_num, by rw [ht.out], hide (hbr.out.trans (hw1.mono hbr.out.size))⟩
    case measure => simp [intOf]; omega
  ·go_wp2
   go_ret
   rw [List.take_of_length_le (by omega)]
   exact ⟨rfl, hbr.out⟩
theorem weighs_in (s : St) : WeighsIn s := by
 induction s using St.ind with
 | h kind head name e thn els ih1 ih2 => exact ⟨weighs_of thn ih1, weighs_of els ih2⟩
theorem weighs_any (l : List St) : WeighsIs l := weighs_of l fun x _ => weighs_in x
end Go.Proofs.YtbbdhknagofghaaGreat
/-! Layer 4's Great: names, fields, and the whole. -/
namespace Go.Proofs.YtbbdhknagofghaaGreat
open Go.RowKit
def lenN (n : Int) : List ByteArray → Int
 | [] => n
 | s :: l => lenN (wrap64 (n + s.size)) l
theorem lenN_snoc (l : List ByteArray) (x : ByteArray) : ∀ n : Int, lenN n (l ++ [x]) = wrap64 (lenN n l + x.size) := by
 induction l with
 | nil => intro n; simp only [List.nil_append, lenN]
 | cons y l ih => intro n; simp only [List.cons_append, lenN, ih]
theorem lenN_take {l : List ByteArray} {k : Nat} (hk : k < l.length) (n : Int) : lenN n (l.take (k + 1)) = wrap64 (lenN n (l.take k) + l[k].size) := by
 rw [List.take_succ_eq_append_getElem hk, lenN_snoc]
def lenF (n : Int) : List Fd → Int
 | [] => n
 | s :: l => lenF (wrap64 (n + s.1.size)) l
theorem lenF_snoc (l : List Fd) (x : Fd) : ∀ n : Int, lenF n (l ++ [x]) = wrap64 (lenF n l + x.1.size) := by
 induction l with
 | nil => intro n; simp only [List.nil_append, lenF]
 | cons y l ih => intro n; simp only [List.cons_append, lenF, ih]
theorem lenF_take {l : List Fd} {k : Nat} (hk : k < l.length) (n : Int) : lenF n (l.take (k + 1)) = wrap64 (lenF n (l.take k) + l[k].1.size) := by
 rw [List.take_succ_eq_append_getElem hk, lenF_snoc]
set_option maxHeartbeats 1000000 in
theorem names04_any (l : List ByteArray) (A : Option Addr) (cap : Nat) (w : World) (hS : Sl 1 rStr w w.heap.size A l) :
  Calls Tryz.prog 13 #[.slice A l.length cap] w fun r w' => r = .returned (.int .i64 (lenN l.length l)) ∧ Below w.heap.size w w' := by
 have hl := hS.len
 go_enter Tryz.func13, Tryz.ntmps13
 go_wp2
 go_loopw [3, 4] (fun n i wr => ∃ k : Nat, k ≤ l.length ∧ i = .int .i64 k ∧ n = .int .i64 (lenN l.length (l.take k)) ∧ wr = w) (fun _ i _ => l.length - (intOf i).toNat)
 case atStart => exact ⟨0, Nat.zero_le _, rfl, by simp [lenN], rfl⟩
 case round =>
  obtain ⟨k, hk, rfl, rfl, rfl⟩ := hrel
  by_cases hlt : k < l.length
  ·obtain ⟨b, o, rfl, hb, hcell, hz⟩ := hS.str hlt
   have hltz : (k : Int) < (l.length : Int) := by omega
   have ht := hide (lenN_take hlt l.length)
   go_wp2
   go_roundw
   case rel => exact ⟨k + 1, by omega, by go_num, by rw [ht.out], by trivial⟩
   case measure => simp [intOf]; omega
  ·go_wp2
   go_ret
   rw [List.take_of_length_le (by omega)]
   exact ⟨rfl, Below.refl _ _⟩
set_option maxHeartbeats 1000000 in
theorem fields04_any (l : List Fd) (A : Option Addr) (cap : Nat) (w : World) (hS : Sl 2 rFd w w.heap.size A l) :
  Calls Tryz.prog 11 #[.slice A l.length cap] w fun r w' => r = .returned (.int .i64 (lenF l.length l)) ∧ Below w.heap.size w w' := by
 have hl := hS.len
 go_enter Tryz.func11, Tryz.ntmps11
 go_wp2
 go_loopw [3, 4] (fun n i wr => ∃ k : Nat, k ≤ l.length ∧ i = .int .i64 k ∧ n = .int .i64 (lenF l.length (l.take k)) ∧ wr = w) (fun _ i _ => l.length - (intOf i).toNat)
 case atStart => exact ⟨0, Nat.zero_le _, rfl, by simp [lenF], rfl⟩
 case round =>
  obtain ⟨k, hk, rfl, rfl, rfl⟩ := hrel
  by_cases hlt : k < l.length
  ·obtain ⟨b, o, ecs, rfl, hb, hel, hcell, rfl, hz, hi⟩ := hS.2 k _ (List.getElem?_eq_getElem hlt)
   have hltz : (k : Int) < (l.length : Int) := by omega
   have x0 : wr.cell? ⟨b, o + k * 2, none⟩ = some (.string l[k].1) := by simpa using hcell 0 _ rfl
   have x1 : wr.cell? ⟨b, o + k * 2 + 1, none⟩ = some (.int .i64 l[k].2) := hcell 1 _ rfl
   have ht := hide (lenF_take hlt l.length)
   clear hcell
   go_wp2
   go_roundw
   case rel => exact ⟨k + 1, by omega, by go_num, by rw [ht.out], by trivial⟩
   case measure => simp [intOf]; omega
  ·go_wp2
   go_ret
   rw [List.take_of_length_le (by omega)]
   exact ⟨rfl, Below.refl _ _⟩
end Go.Proofs.YtbbdhknagofghaaGreat

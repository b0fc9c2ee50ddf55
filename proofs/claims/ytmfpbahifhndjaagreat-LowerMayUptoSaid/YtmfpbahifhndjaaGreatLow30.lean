import Derived.Test.YtmfpbahifhndjaaGreatLow11
import Derived.Test.YtmfpbahifhndjaaGreatLow29
set_option linter.all false
/-! Layer 10: SameCode, of two codes that are the same. -/
namespace Go.Proofs.YtmfpbahifhndjaaGreat
open Go.RowKit
set_option maxRecDepth 100000 in
set_option maxHeartbeats 4000000 in
theorem samecode_eq (xs : List Nd) (A A' : Option Addr) (c c' : Nat) (w : World) (h1 : Sl 6 rNd w w.heap.size A xs) (h2 : Sl 6 rNd w w.heap.size A' xs) :
  Calls Tryz.prog 14 #[.slice A xs.length c, .slice A' xs.length c'] w fun e w' => e = .returned (.bool true) ∧ Below w.heap.size w w' := by
 have hl := h1.len
 have h1' := hide h1
 have h2' := hide h2
 clear h1 h2
 go_enter Tryz.func14, Tryz.ntmps14
 go_wp2
 go_loopw [5] (fun i wr => ∃ k : Nat, k ≤ xs.length ∧ i = .int .i64 k ∧ Hid (Below w.heap.size w wr)) (fun i _ => xs.length - (intOf i).toNat)
 case atStart => exact ⟨0, Nat.zero_le _, rfl, hide (Below.refl _ _)⟩
 case round =>
  obtain ⟨k, hk, rfl, hG⟩ := hrel
  by_cases hlt : k < xs.length
  ·have hkz : (k : Int) < (xs.length : Int) := by omega
   obtain ⟨b, o, rfl, hb, x0, x1, x2, x3, x4, x5, -, -, -⟩ := (h1'.out.below sta_nd hG.out).node hlt
   obtain ⟨b', o', rfl, hb', y0, y1, y2, y3, y4, y5, -, -, -⟩ := (h2'.out.below sta_nd hG.out).node hlt
   generalize xs[k] = nd at x0 x1 x2 x3 x4 x5 y0 y1 y2 y3 y4 y5
   obtain ⟨n1, n2, n3, n4, n5, n6⟩ := nd
   simp only at x0 x1 x2 x3 x4 x5 y0 y1 y2 y3 y4 y5
   have hbr := Nat.lt_of_lt_of_le hb hG.out.size
   have hbr' := Nat.lt_of_lt_of_le hb' hG.out.size
   have hN := fun n => hide (hG.out.trans ((below_drewN (Below.refl wr.heap.size wr) n).mono hG.out.size))
   go_wp2_with fail
   go_quiet (fail)
   go_wp2
   go_roundw
   case rel => exact ⟨k + 1, by omega, by go_num, hN _⟩
   case measure => simp [intOf]; omega
  ·have hke : k = xs.length := by omega
   subst hke
   go_wp2
   go_ret
   exact ⟨rfl, hG.out⟩
end Go.Proofs.YtmfpbahifhndjaaGreat
/-! Layer 10: Pred, and the page's example. -/
namespace Go.Proofs.YtmfpbahifhndjaaGreat
open Go.RowKit
def kE (x : Int × Int) : Ex := .mk x.1 (0, 0, x.2) strE strE 0 0 []
def kX (x : Int × Int) : List Value := exC x.1 (0, 0, x.2) strE strE 0 0 none 0 0
def zP : Pg := ⟨[], [], [], [], [], [], []⟩
theorem kE_r (w : World) (B : Nat) {x : Int × Int} (h : u8 x.1 ∧ u64 x.2) : rEx w B (kX x) (kE x) :=
 RE.intro (args := []) ⟨h.1, ⟨by show i64 0; unfold i64; omega, by show u64 0; unfold u64; omega, h.2⟩, by decide, by decide, by unfold i64; omega, by unfold i64; omega⟩ (by simp [depthL, sm]) Sl.nil_
theorem kArgs {W : World} {g : Nat} (xs : List (Int × Int)) (hx : ∀ x ∈ xs, u8 x.1 ∧ u64 x.2) (hn : xs.length ≤ 2) (hg : g < W.heap.size) (hc : ∀ (i : Nat) (u : Value), (xs.flatMap kX)[i]? = some u → W.cell? ⟨g, i, none⟩ = some u) : Sl 9 rEx W W.heap.size (some ⟨g, 0, none⟩) (xs.map kE) := by
 refine ⟨by simp [maxLen]; omega, fun i e he => ?_⟩
 rw [List.getElem?_map] at he
 cases hxi : xs[i]? with
 | none => rw [hxi] at he; cases he
 | some x =>
  rw [hxi] at he
  injection he with he
  subst he
  exact ⟨g, 0, kX x, rfl, hg, rfl, fun j u hu => by
   have := hc _ u (flatMap_get (k := 9) (fun _ => rfl) xs i j x u hxi hu)
   rw [Nat.zero_add]; exact this, kE_r W _ (hx x (List.mem_of_getElem? hxi))⟩
theorem depth_k (xs : List (Int × Int)) : depthL (xs.map kE) < sm := by
 have : depthL (xs.map kE) ≤ 1 := by
  induction xs with
  | nil => simp [depthL]
  | cons x l ih => simp only [List.map_cons, depthL, kE, depthE] at ih ⊢; omega
 unfold sm; omega
theorem zP_s (w : World) (B : Nat) : PgS w B none none none none none none none zP := ⟨Sl.nil_, Sl.nil_, Sl.nil_, Sl.nil_, Sl.nil_, Sl.nil_, Sl.nil_⟩
set_option maxRecDepth 100000 in
set_option maxHeartbeats 8000000 in
theorem pred_any (A1 A2 A3 A4 A5 A6 A7 : Option Addr) (p : Pg) (c1 c2 c3 c4 c5 c6 c7 : Nat) {m : Int} {B : Nat} (hm : wideP p = true) (h0 : 0 < B) (e : Ex) (c : List Nd) (tw : Int) (tf : Bool) (hof : ofE (askR p (-1) e) = (⟨tw, true, tf⟩, 0)) (hc : CodeIs A1 A2 A3 A4 A5 A6 A7 p c1 c2 c3 c4 c5 c6 c7 m (-1) B e 1 c) (cs : List Value) (w : World) (hB : B ≤ w.heap.size) (hz : w.cell? ⟨0, 0, none⟩ = some (.int .i64 m)) (hP : PgS w B A1 A2 A3 A4 A5 A6 A7 p) (hr : rEx w B cs e) :
  Calls Tryz.prog 13 #[.agg #[.slice A1 p.headers.length c1, .slice A2 p.metas.length c2, .slice A3 p.states.length c3, .slice A4 p.actions.length c4, .slice A5 p.tables.length c5, .slice A6 p.control.length c6, .slice A7 p.emit.length c7], .agg cs.toArray] w fun z w' => ∃ A cap, z = .returned (.tuple #[.slice A c.length cap, .int .i64 0]) ∧ NdS w' w.heap.size (.slice A c.length cap) c ∧ Below w.heap.size w w' := by
 obtain ⟨op, lit, head, name, hi, lo, args⟩ := e
 have hr' := hr
 obtain ⟨A, cap, rfl, -⟩ := RE.inv hr'
 clear hr'
 show Calls _ _ #[.agg #[.slice A1 p.headers.length c1, .slice A2 p.metas.length c2, .slice A3 p.states.length c3, .slice A4 p.actions.length c4, .slice A5 p.tables.length c5, .slice A6 p.control.length c6, .slice A7 p.emit.length c7], .agg #[.int .u8 op, .int .i64 lit.1, .int .u64 lit.2.1, .int .u64 lit.2.2, .string head, .string name, .int .i64 hi, .int .i64 lo, .slice A args.length cap]] _ _
 obtain ⟨wv, hwv, hsv, hbv, hcv, -⟩ := box1 w #[.slice A1 p.headers.length c1, .slice A2 p.metas.length c2, .slice A3 p.states.length c3, .slice A4 p.actions.length c4, .slice A5 p.tables.length c5, .slice A6 p.control.length c6, .slice A7 p.emit.length c7] 76
 obtain ⟨we, hwe, hse, hbe, hce, -⟩ := box1 wv #[.int .u8 op, .int .i64 lit.1, .int .u64 lit.2.1, .int .u64 lit.2.2, .string head, .string name, .int .i64 hi, .int .i64 lo, .slice A args.length cap] 65
 have hw : Below w.heap.size w we := hbv.trans (hbe.mono (by omega))
 have hl1 : w.heap.size < we.heap.size := by omega
 have hl2 : wv.heap.size < we.heap.size := by omega
 have cv := fun i => (hbe.cell (p := ⟨w.heap.size, i, none⟩) (by show w.heap.size < _; omega)).trans (hcv i)
 obtain ⟨v0, v1, v2, v3, v4, v5, v6⟩ := row7 cv
 obtain ⟨e0, e1, e2, e3, e4, e5, e6, e7, e8⟩ := row9 hce
 have hmz : ∀ W, Below we.heap.size we W → W.cell? ⟨0, 0, none⟩ = some (.int .i64 m) := fun W hW => (hW.cell (p := ⟨0, 0, none⟩) (by show 0 < _; omega)).trans ((hw.cell (p := ⟨0, 0, none⟩) (by show 0 < _; omega)).trans hz)
 have hPW : ∀ W, Below we.heap.size we W → PgS W B A1 A2 A3 A4 A5 A6 A7 p := fun W hW => hP.below ((hw.trans (hW.mono hw.size)).mono hB)
 have hRW : ∀ W, Below we.heap.size we W → rEx W B _ _ := fun W hW => sta_ex.keep hr fun q hq => ((hw.trans (hW.mono hw.size)).mono hB).cell hq
 have hX := tOf_any A1 A2 A3 A4 A5 A6 A7 p c1 c2 c3 c4 c5 c6 c7 (m := m) (act := -1) (B := B) hm (.mk op lit head name hi lo args) _ we (Nat.le_trans hB hw.size) h0 (hmz _ (Below.refl _ _)) (hPW _ (Below.refl _ _)) (hRW _ (Below.refl _ _))
 rw [hof] at hX
 have hX' : Hid (Calls Tryz.prog 49 #[.agg #[.slice A1 p.headers.length c1, .slice A2 p.metas.length c2, .slice A3 p.states.length c3, .slice A4 p.actions.length c4, .slice A5 p.tables.length c5, .slice A6 p.control.length c6, .slice A7 p.emit.length c7], .int .i64 (-1), .agg #[.int .u8 op, .int .i64 lit.1, .int .u64 lit.2.1, .int .u64 lit.2.2, .string head, .string name, .int .i64 hi, .int .i64 lo, .slice A args.length cap]] we fun z w' => z = .returned (.tuple #[.agg #[.int .i64 tw, .bool true, .bool tf], .int .i64 0]) ∧ Below we.heap.size we w') := hide hX
 have hC : Hid (∀ W, Below we.heap.size we W → Calls Tryz.prog 50 #[.agg #[.slice A1 p.headers.length c1, .slice A2 p.metas.length c2, .slice A3 p.states.length c3, .slice A4 p.actions.length c4, .slice A5 p.tables.length c5, .slice A6 p.control.length c6, .slice A7 p.emit.length c7, .int .i64 (-1)], .agg #[.int .u8 op, .int .i64 lit.1, .int .u64 lit.2.1, .int .u64 lit.2.2, .string head, .string name, .int .i64 hi, .int .i64 lo, .slice A args.length cap], .int .i64 1] W fun z w' => ∃ A cap, z = .returned (.slice A c.length cap) ∧ NdS w' w.heap.size (.slice A c.length cap) c ∧ Below w.heap.size w w') := hide fun W hW => (hc _ W (Nat.le_trans hB (Nat.le_trans hw.size hW.size)) (hmz W hW) (hPW W hW) (hRW W hW)).mono fun z w' ⟨A, cap, h1, h2, h3⟩ => ⟨A, cap, h1, h2.mono (Nat.le_trans hw.size hW.size), (hw.trans (hW.mono hw.size)).trans (h3.mono (Nat.le_trans hw.size hW.size))⟩
 replace hse := hide hse
 replace hsv := hide hsv
 clear hcv hce hbv hbe cv hP hr hz hX hmz hPW hRW hw hof hc
 generalize c.length = nc at *
 have hT : ∀ W, Below we.heap.size we W → Hid (Below we.heap.size we (W.alloc (.cells #[.int .i64 tw, .bool true, .bool tf] 107))) := fun W hW => hide (hW.alloc hW.size _)
 go_enter Tryz.func13, Tryz.ntmps13
 go_wp2_with (first
  | (go_at_call 49; refine hX'.out.mono ?_; rintro e w3 ⟨rfl, hb3⟩; have kb3 := bcell hb3; have hT3 := hT _ hb3; have q1 := Nat.lt_of_lt_of_le hl1 hb3.size; have q2 := Nat.lt_of_lt_of_le hl2 hb3.size)
  | (go_at_call 50; refine (hC.out _ hT3.out).mono ?_; rintro e w4 ⟨A4', k4, rfl, hN4, hb4⟩))
 refine bodyPost_ret (results_tmp2 rfl _ _ _) rfl ?_
 exact ⟨_, _, rfl, hN4, hb4⟩
end Go.Proofs.YtmfpbahifhndjaaGreat
/-! Printed by gen_known10.py. Layer 10: the page's example. -/
namespace Go.Proofs.YtmfpbahifhndjaaGreat
open Go.RowKit
def kL10 : List Nd := [⟨5, 9, 0, 0, 0, 0⟩, ⟨1, 9, 0, 0, 0, 1⟩, ⟨20, 1, 0, 0, 0, 0⟩, ⟨7, 1, 0, 0, 0, 0⟩]
def kE10 : Ex := .mk 23 (0, 0, 0) strE strE 0 0 ([(5, 0), (1, 1)].map kE)
theorem kof10 : ofE (askR zP (-1) kE10) = (⟨0, true, false⟩, 0) := by
 unfold askR; rw [if_pos (by decide +kernel)]; rfl
theorem kw5 : ∀ z, widthE zP (-1) (kE (5, 0)) z = 9 := fun z => by
 have : ofE (askR zP (-1) (kE (5, 0))) = (⟨9, false, false⟩, 0) := by unfold askR; rw [if_pos (by decide +kernel)]; rfl
 unfold widthE; rw [this]; rfl
theorem kw1 : ∀ z, widthE zP (-1) (kE (1, 1)) z = z := fun z => by
 have : ofE (askR zP (-1) (kE (1, 1))) = (⟨0, false, true⟩, 0) := by unfold askR; rw [if_pos (by decide +kernel)]; rfl
 unfold widthE; rw [this]; rfl
theorem kw10 : widthE zP (-1) kE10 1 = 1 := by unfold widthE; rw [kof10]; rfl
theorem kcode10 {m : Int} {B : Nat} (h0 : 0 < B) : CodeIs none none none none none none none zP 0 0 0 0 0 0 0 m (-1) B kE10 1 kL10 := by
 have ha := code_leaf none none none none none none none zP 0 0 0 0 0 0 0 (m := m) (act := -1) (B := B) h0 rfl 5 (0, 0, 0) strE strE 0 0 9 (.inr rfl)
 have hb := code_leaf none none none none none none none zP 0 0 0 0 0 0 0 (m := m) (act := -1) (B := B) h0 rfl 1 (0, 0, 1) strE strE 0 0 9 (.inl rfl)
 have e5 : (Ex.mk 5 (0, 0, 0) strE strE 0 0 []) = kE (5, 0) := rfl
 have e1 : (Ex.mk 1 (0, 0, 1) strE strE 0 0 []) = kE (1, 1) := rfl
 rw [e5, kw5] at ha
 rw [e1, kw1] at hb
 have hs : widthE zP (-1) (kE (5, 0)) (widthE zP (-1) (kE (1, 1)) 0) = 9 := kw5 _
 have := code_gt none none none none none none none zP 0 0 0 0 0 0 0 (m := m) (act := -1) (B := B) h0 rfl (0, 0, 0) strE strE 0 0 1 (kE (5, 0)) (kE (1, 1)) _ _ (by rw [hs]; exact ha) (by rw [hs]; exact hb) (by simp) (by simp) (by simp)
 have ew : widthE zP (-1) (Ex.mk 23 (0, 0, 0) strE strE 0 0 [kE (5, 0), kE (1, 1)]) 1 = 1 := kw10
 rw [ew] at this
 exact this
theorem kok10 : ∀ n ∈ kL10, okN n := by
 intro n hn
 simp only [kL10, List.mem_cons, List.not_mem_nil, or_false] at hn
 rcases hn with rfl | rfl | rfl | rfl <;> exact ⟨⟨by decide, by decide⟩, ⟨by decide, by decide⟩, ⟨by decide, by decide⟩⟩
theorem klit10 (w : World) : Sl 6 rNd (w.alloc (.cells #[.int .u8 5, .int .i64 9, .int .i64 0, .int .i64 0, .int .u64 0, .int .u64 0, .int .u8 1, .int .i64 9, .int .i64 0, .int .i64 0, .int .u64 0, .int .u64 1, .int .u8 20, .int .i64 1, .int .i64 0, .int .i64 0, .int .u64 0, .int .u64 0, .int .u8 7, .int .i64 1, .int .i64 0, .int .i64 0, .int .u64 0, .int .u64 0] 79)) (w.alloc (.cells #[.int .u8 5, .int .i64 9, .int .i64 0, .int .i64 0, .int .u64 0, .int .u64 0, .int .u8 1, .int .i64 9, .int .i64 0, .int .i64 0, .int .u64 0, .int .u64 1, .int .u8 20, .int .i64 1, .int .i64 0, .int .i64 0, .int .u64 0, .int .u64 0, .int .u8 7, .int .i64 1, .int .i64 0, .int .i64 0, .int .u64 0, .int .u64 0] 79)).heap.size (some ⟨w.heap.size, 0, none⟩) kL10 := by
 have h : NdS (w.alloc (.cells #[.int .u8 5, .int .i64 9, .int .i64 0, .int .i64 0, .int .u64 0, .int .u64 0, .int .u8 1, .int .i64 9, .int .i64 0, .int .i64 0, .int .u64 0, .int .u64 1, .int .u8 20, .int .i64 1, .int .i64 0, .int .i64 0, .int .u64 0, .int .u64 0, .int .u8 7, .int .i64 1, .int .i64 0, .int .i64 0, .int .u64 0, .int .u64 0] 79)) w.heap.size (.slice (some ⟨w.heap.size, 0, none⟩) 4 4) kL10 :=
  ⟨kok10, rfl, .inr ⟨w.heap.size, 4, _, rfl, Nat.le_refl _, heap_alloc_new w _, Nat.le_refl _, by simp [maxLen], rfl, rfl⟩⟩
 obtain ⟨X, y, ex, sx⟩ := h.sl
 injection ex with e1 e2 e3
 rw [e1]; exact sx
theorem cnew {W : World} {cs : Array Value} {t : TypeId} {l : List Value} (hl : cs.toList = l) : ∀ (i : Nat) (u : Value), l[i]? = some u → (W.alloc (.cells cs t)).cell? ⟨W.heap.size, i, none⟩ = some u := fun i u hu => by
 rw [World.cell?_alloc_at _ _ _ _ rfl, ← hl, Array.getElem?_toList] at *
 exact hu
def Knows10 (m : Int) : Prop := ∀ (w : World), w.cell? ⟨0, 0, none⟩ = some (.int .i64 m) → Calls Tryz.prog 5 #[] w fun e w' => e = .returned (.bool true) ∧ Below w.heap.size w w'
set_option maxRecDepth 100000 in
set_option maxHeartbeats 8000000 in
theorem known10_any (m : Int) : Knows10 m := by
 intro w hz
 have h0 : 0 < w.heap.size := World.block_lt_of_cell? (u := .int .i64 m) (a := ⟨0, 0, none⟩) w hz
 have hb2 : ∀ o o', Below w.heap.size w ((w.alloc o).alloc o') := fun o o' => ((Below.refl _ _).alloc (Nat.le_refl _) _).alloc (by simp) _
 have hb1 : Below w.heap.size w (w.alloc (.cells #[.int .u8 5, .int .i64 0, .int .u64 0, .int .u64 0, .string (ByteArray.mk #[]), .string (ByteArray.mk #[]), .int .i64 0, .int .i64 0, .slice none 0 0, .int .u8 1, .int .i64 0, .int .u64 0, .int .u64 1, .string (ByteArray.mk #[]), .string (ByteArray.mk #[]), .int .i64 0, .int .i64 0, .slice none 0 0] 65)) := (Below.refl _ _).alloc (Nat.le_refl _) _
 have hS : Sl 9 rEx (w.alloc (.cells #[.int .u8 5, .int .i64 0, .int .u64 0, .int .u64 0, .string (ByteArray.mk #[]), .string (ByteArray.mk #[]), .int .i64 0, .int .i64 0, .slice none 0 0, .int .u8 1, .int .i64 0, .int .u64 0, .int .u64 1, .string (ByteArray.mk #[]), .string (ByteArray.mk #[]), .int .i64 0, .int .i64 0, .slice none 0 0] 65)) (w.alloc (.cells #[.int .u8 5, .int .i64 0, .int .u64 0, .int .u64 0, .string (ByteArray.mk #[]), .string (ByteArray.mk #[]), .int .i64 0, .int .i64 0, .slice none 0 0, .int .u8 1, .int .i64 0, .int .u64 0, .int .u64 1, .string (ByteArray.mk #[]), .string (ByteArray.mk #[]), .int .i64 0, .int .i64 0, .slice none 0 0] 65)).heap.size (some ⟨w.heap.size, 0, none⟩) ([(5, 0), (1, 1)].map kE) := by
  refine kArgs _ (fun x hx => ?_) (by simp) (by simp) fun i u hu => ?_
  ·simp only [List.mem_cons, List.not_mem_nil, or_false] at hx
   rcases hx with rfl | rfl <;> exact ⟨⟨by decide, by decide⟩, ⟨by decide, by decide⟩⟩
  ·exact cnew (cs := #[.int .u8 5, .int .i64 0, .int .u64 0, .int .u64 0, .string (ByteArray.mk #[]), .string (ByteArray.mk #[]), .int .i64 0, .int .i64 0, .slice none 0 0, .int .u8 1, .int .i64 0, .int .u64 0, .int .u64 1, .string (ByteArray.mk #[]), .string (ByteArray.mk #[]), .int .i64 0, .int .i64 0, .slice none 0 0]) (t := 65) (l := [(5, 0), (1, 1)].flatMap kX) rfl i u hu
 have hS2 : ∀ o, Sl 9 rEx ((w.alloc (.cells #[.int .u8 5, .int .i64 0, .int .u64 0, .int .u64 0, .string (ByteArray.mk #[]), .string (ByteArray.mk #[]), .int .i64 0, .int .i64 0, .slice none 0 0, .int .u8 1, .int .i64 0, .int .u64 0, .int .u64 1, .string (ByteArray.mk #[]), .string (ByteArray.mk #[]), .int .i64 0, .int .i64 0, .slice none 0 0] 65)).alloc o) ((w.alloc (.cells #[.int .u8 5, .int .i64 0, .int .u64 0, .int .u64 0, .string (ByteArray.mk #[]), .string (ByteArray.mk #[]), .int .i64 0, .int .i64 0, .slice none 0 0, .int .u8 1, .int .i64 0, .int .u64 0, .int .u64 1, .string (ByteArray.mk #[]), .string (ByteArray.mk #[]), .int .i64 0, .int .i64 0, .slice none 0 0] 65)).alloc o).heap.size (some ⟨w.heap.size, 0, none⟩) ([(5, 0), (1, 1)].map kE) := fun o => (hS.below sta_ex ((Below.refl _ _).alloc (Nat.le_refl _) o)).more sta_ex (by simp)
 have hP : ∀ o, Hid (Calls Tryz.prog 13 #[.agg #[.slice none 0 0, .slice none 0 0, .slice none 0 0, .slice none 0 0, .slice none 0 0, .slice none 0 0, .slice none 0 0], .agg #[.int .u8 23, .int .i64 0, .int .u64 0, .int .u64 0, .string (ByteArray.mk #[]), .string (ByteArray.mk #[]), .int .i64 0, .int .i64 0, .slice (some ⟨w.heap.size, 0, none⟩) 2 2]] ((w.alloc (.cells #[.int .u8 5, .int .i64 0, .int .u64 0, .int .u64 0, .string (ByteArray.mk #[]), .string (ByteArray.mk #[]), .int .i64 0, .int .i64 0, .slice none 0 0, .int .u8 1, .int .i64 0, .int .u64 0, .int .u64 1, .string (ByteArray.mk #[]), .string (ByteArray.mk #[]), .int .i64 0, .int .i64 0, .slice none 0 0] 65)).alloc o) fun z w' => ∃ A cap, z = .returned (.tuple #[.slice A 4 cap, .int .i64 0]) ∧ Hid (NdS w' w.heap.size (.slice A 4 cap) kL10) ∧ Hid (Below w.heap.size w w')) := fun o => hide <| by
  have := pred_any none none none none none none none zP 0 0 0 0 0 0 0 (m := m) (B := ((w.alloc (.cells #[.int .u8 5, .int .i64 0, .int .u64 0, .int .u64 0, .string (ByteArray.mk #[]), .string (ByteArray.mk #[]), .int .i64 0, .int .i64 0, .slice none 0 0, .int .u8 1, .int .i64 0, .int .u64 0, .int .u64 1, .string (ByteArray.mk #[]), .string (ByteArray.mk #[]), .int .i64 0, .int .i64 0, .slice none 0 0] 65)).alloc o).heap.size) rfl (by simp) kE10 kL10 0 false kof10 (kcode10 (by simp)) _ ((w.alloc (.cells #[.int .u8 5, .int .i64 0, .int .u64 0, .int .u64 0, .string (ByteArray.mk #[]), .string (ByteArray.mk #[]), .int .i64 0, .int .i64 0, .slice none 0 0, .int .u8 1, .int .i64 0, .int .u64 0, .int .u64 1, .string (ByteArray.mk #[]), .string (ByteArray.mk #[]), .int .i64 0, .int .i64 0, .slice none 0 0] 65)).alloc o) (Nat.le_refl _) (((hb2 _ _).cell (p := ⟨0, 0, none⟩) h0).trans hz) (zP_s _ _) (RE.intro (A := some ⟨w.heap.size, 0, none⟩) (cap := 2) ⟨⟨by decide, by decide⟩, ⟨by show i64 0; unfold i64; omega, by show u64 0; unfold u64; omega, by show u64 0; unfold u64; omega⟩, by decide, by decide, by unfold i64; omega, by unfold i64; omega⟩ (depth_k [(5, 0), (1, 1)]) (hS2 o))
  have hle : w.heap.size ≤ ((w.alloc (.cells #[.int .u8 5, .int .i64 0, .int .u64 0, .int .u64 0, .string (ByteArray.mk #[]), .string (ByteArray.mk #[]), .int .i64 0, .int .i64 0, .slice none 0 0, .int .u8 1, .int .i64 0, .int .u64 0, .int .u64 1, .string (ByteArray.mk #[]), .string (ByteArray.mk #[]), .int .i64 0, .int .i64 0, .slice none 0 0] 65)).alloc o).heap.size := (hb2 _ o).size
  refine (show Calls Tryz.prog 13 #[.agg #[.slice none 0 0, .slice none 0 0, .slice none 0 0, .slice none 0 0, .slice none 0 0, .slice none 0 0, .slice none 0 0], .agg #[.int .u8 23, .int .i64 0, .int .u64 0, .int .u64 0, .string (ByteArray.mk #[]), .string (ByteArray.mk #[]), .int .i64 0, .int .i64 0, .slice (some ⟨w.heap.size, 0, none⟩) 2 2]] ((w.alloc (.cells #[.int .u8 5, .int .i64 0, .int .u64 0, .int .u64 0, .string (ByteArray.mk #[]), .string (ByteArray.mk #[]), .int .i64 0, .int .i64 0, .slice none 0 0, .int .u8 1, .int .i64 0, .int .u64 0, .int .u64 1, .string (ByteArray.mk #[]), .string (ByteArray.mk #[]), .int .i64 0, .int .i64 0, .slice none 0 0] 65)).alloc o) _ from this).mono ?_
  rintro z w' ⟨A, cap, h1, h2, h3⟩
  exact ⟨A, cap, h1, hide (h2.mono hle), hide ((hb2 _ _).trans (h3.mono hle))⟩
 have hQ0 : ∀ (w3 : World) (A1 : Option Addr) (k1 : Nat), NdS w3 w.heap.size (.slice A1 4 k1) kL10 → Below w.heap.size w w3 → Hid (Calls Tryz.prog 14 #[.slice A1 4 k1, .slice (some ⟨w3.heap.size, 0, none⟩) 4 4] (w3.alloc (.cells #[.int .u8 5, .int .i64 9, .int .i64 0, .int .i64 0, .int .u64 0, .int .u64 0, .int .u8 1, .int .i64 9, .int .i64 0, .int .i64 0, .int .u64 0, .int .u64 1, .int .u8 20, .int .i64 1, .int .i64 0, .int .i64 0, .int .u64 0, .int .u64 0, .int .u8 7, .int .i64 1, .int .i64 0, .int .i64 0, .int .u64 0, .int .u64 0] 79)) fun e w' => e = .returned (.bool true) ∧ Hid (Below w.heap.size w w')) := fun w3 A1 k1 h1 h2 => hide <| by
  obtain ⟨X, y, ex, sx⟩ := h1.sl
  injection ex with e1 e2 e3
  subst e1 e3
  have hba : Below w3.heap.size w3 (w3.alloc (.cells #[.int .u8 5, .int .i64 9, .int .i64 0, .int .i64 0, .int .u64 0, .int .u64 0, .int .u8 1, .int .i64 9, .int .i64 0, .int .i64 0, .int .u64 0, .int .u64 1, .int .u8 20, .int .i64 1, .int .i64 0, .int .i64 0, .int .u64 0, .int .u64 0, .int .u8 7, .int .i64 1, .int .i64 0, .int .i64 0, .int .u64 0, .int .u64 0] 79)) := (Below.refl _ _).alloc (Nat.le_refl _) _
  refine (samecode_eq kL10 _ (some ⟨w3.heap.size, 0, none⟩) _ 4 (w3.alloc (.cells #[.int .u8 5, .int .i64 9, .int .i64 0, .int .i64 0, .int .u64 0, .int .u64 0, .int .u8 1, .int .i64 9, .int .i64 0, .int .i64 0, .int .u64 0, .int .u64 1, .int .u8 20, .int .i64 1, .int .i64 0, .int .i64 0, .int .u64 0, .int .u64 0, .int .u8 7, .int .i64 1, .int .i64 0, .int .i64 0, .int .u64 0, .int .u64 0] 79)) ((sx.below sta_nd hba).more sta_nd hba.size) (klit10 w3)).mono ?_
  rintro e w' ⟨g1, g2⟩
  exact ⟨g1, hide ((h2.trans (hba.mono h2.size)).trans (g2.mono (Nat.le_trans h2.size hba.size)))⟩
 clear hS hS2 hb1 hb2
 go_enter Tryz.func5, Tryz.ntmps5
 go_wp2_with (first | (go_at_call 14; refine hQ.out.mono ?_; rintro e w4 ⟨rfl, hb4⟩) | (go_at_call 13; refine (hP _).out.mono ?_; rintro e w3 ⟨A1, k1, rfl, hN, hb3⟩; have hQ := hQ0 w3 A1 k1 hN.out hb3.out))
 go_ret
 exact ⟨rfl, hb4.out⟩
end Go.Proofs.YtmfpbahifhndjaaGreat
